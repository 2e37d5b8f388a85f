/-
  DERIVED. GIVEN WITH THE SEED: THE CARDS: each row of YtpegkoklmhccjaaDoorRows.lean that lists a variable, with what it lists TIED to the program's text (the seventh form; the later family's looks); each row that meets fmt, with fmt's text TOLD by the authors' own Lean function (tested against real Go, not proved from fmt's source: count such statements apart). THE CARD IS WHAT COUNTS. Prove the row's statement (the work); the ties are given (YtpegkoklmhccjaaDoorTie.lean); close each card by the builder's one call (the guide's Derived/Test/ToyasCard.lean, 'card_holds'). Laid BY PROGRAM, IN A SANDBOX (cutbox-door.mjs). By AI agents, Wed Nov 11 2026. No macro, syntax, notation, axiom, sorry.
-/
import Derived.Test.YtpegkoklmhccjaaDoorRows
import GoSem.ClaimSeven
namespace Go.Proofs.YtpegkoklmhccjaaDoor
namespace Rows

/-- THE TIED CARD OF 'cachetlaw12.JsonNames'. -/
def jsonNamesCard : Claim7 := { stood := { row := jsonNamesRow, standIns := [], harness := (true, "ede56e9535b8bf6fb583537d6bcd8e0fe8de3c962bf3d0ceb23aee02efa9a906"), looks := true }, kinds := [], alts := [], laidByText := true, laidKinds := [.data, .pinned], laidTests := true, laidLooks := .later }
def JsonNamesCardSaid : Prop := Claim7.holds Tryd.pinned (.plain (OpenSpec.ofChange jsonNamesSpec)) jsonNamesCard

/-- THE TIED CARD OF 'cachetlaw12.JsonBlanks'. -/
def jsonBlanksCard : Claim7 := { stood := { row := jsonBlanksRow, standIns := [], harness := (true, "ede56e9535b8bf6fb583537d6bcd8e0fe8de3c962bf3d0ceb23aee02efa9a906"), looks := true }, kinds := [], alts := [], laidByText := true, laidKinds := [.data, .pinned], laidTests := true, laidLooks := .later }
def JsonBlanksCardSaid : Prop := Claim7.holds Tryd.pinned (.plain (OpenSpec.ofChange jsonBlanksSpec)) jsonBlanksCard

/-- THE TIED CARD OF 'cachetlaw12.JsonParses'. -/
def jsonParsesCard : Claim7 := { stood := { row := jsonParsesRow, standIns := [], harness := (true, "ede56e9535b8bf6fb583537d6bcd8e0fe8de3c962bf3d0ceb23aee02efa9a906"), looks := true }, kinds := [], alts := [], laidByText := true, laidKinds := [.data, .pinned], laidTests := true, laidLooks := .later }
def JsonParsesCardSaid : Prop := Claim7.holds Tryd.pinned (.plain (OpenSpec.ofChange jsonParsesSpec)) jsonParsesCard

/-- THE TIED CARD OF 'cachetlaw12.JsonChecks'. -/
def jsonChecksCard : Claim7 := { stood := { row := jsonChecksRow, standIns := [], harness := (true, "ede56e9535b8bf6fb583537d6bcd8e0fe8de3c962bf3d0ceb23aee02efa9a906"), looks := true }, kinds := [], alts := [], laidByText := true, laidKinds := [.data, .pinned], laidTests := true, laidLooks := .later }
def JsonChecksCardSaid : Prop := Claim7.holds Tryd.pinned (.plain (OpenSpec.ofChange jsonChecksSpec)) jsonChecksCard

/-- THE TIED CARD OF 'cachetlaw12.JsonEqual'. -/
def jsonEqualCard : Claim7 := { stood := { row := jsonEqualRow, standIns := [], harness := (true, "ede56e9535b8bf6fb583537d6bcd8e0fe8de3c962bf3d0ceb23aee02efa9a906"), looks := true }, kinds := [], alts := [], laidByText := true, laidKinds := [.data, .pinned], laidTests := true, laidLooks := .later }
def JsonEqualCardSaid : Prop := Claim7.holds Tryd.pinned (.plain (OpenSpec.ofChange jsonEqualSpec)) jsonEqualCard

/-- THE SECOND FORM's CARD OF 'cachetlaw12.JsonNames'. -/
def jsonNamesUptoCard : Claim7 := { stood := { row := jsonNamesUptoRow, standIns := [], harness := (true, "ede56e9535b8bf6fb583537d6bcd8e0fe8de3c962bf3d0ceb23aee02efa9a906"), looks := true }, kinds := [], alts := [], laidByText := true, laidKinds := [.data, .pinned], laidTests := true, laidLooks := .later }
def JsonNamesUptoCardSaid : Prop := Claim7.holds Tryd.pinned (.plain (OpenSpec.upto jsonNamesSpec)) jsonNamesUptoCard

/-- THE SECOND FORM's CARD OF 'cachetlaw12.JsonBlanks'. -/
def jsonBlanksUptoCard : Claim7 := { stood := { row := jsonBlanksUptoRow, standIns := [], harness := (true, "ede56e9535b8bf6fb583537d6bcd8e0fe8de3c962bf3d0ceb23aee02efa9a906"), looks := true }, kinds := [], alts := [], laidByText := true, laidKinds := [.data, .pinned], laidTests := true, laidLooks := .later }
def JsonBlanksUptoCardSaid : Prop := Claim7.holds Tryd.pinned (.plain (OpenSpec.upto jsonBlanksSpec)) jsonBlanksUptoCard

/-- THE SECOND FORM's CARD OF 'cachetlaw12.JsonParses'. -/
def jsonParsesUptoCard : Claim7 := { stood := { row := jsonParsesUptoRow, standIns := [], harness := (true, "ede56e9535b8bf6fb583537d6bcd8e0fe8de3c962bf3d0ceb23aee02efa9a906"), looks := true }, kinds := [], alts := [], laidByText := true, laidKinds := [.data, .pinned], laidTests := true, laidLooks := .later }
def JsonParsesUptoCardSaid : Prop := Claim7.holds Tryd.pinned (.plain (OpenSpec.upto jsonParsesSpec)) jsonParsesUptoCard

/-- THE SECOND FORM's CARD OF 'cachetlaw12.JsonChecks'. -/
def jsonChecksUptoCard : Claim7 := { stood := { row := jsonChecksUptoRow, standIns := [], harness := (true, "ede56e9535b8bf6fb583537d6bcd8e0fe8de3c962bf3d0ceb23aee02efa9a906"), looks := true }, kinds := [], alts := [], laidByText := true, laidKinds := [.data, .pinned], laidTests := true, laidLooks := .later }
def JsonChecksUptoCardSaid : Prop := Claim7.holds Tryd.pinned (.plain (OpenSpec.upto jsonChecksSpec)) jsonChecksUptoCard

/-- THE SECOND FORM's CARD OF 'cachetlaw12.JsonEqual'. -/
def jsonEqualUptoCard : Claim7 := { stood := { row := jsonEqualUptoRow, standIns := [], harness := (true, "ede56e9535b8bf6fb583537d6bcd8e0fe8de3c962bf3d0ceb23aee02efa9a906"), looks := true }, kinds := [], alts := [], laidByText := true, laidKinds := [.data, .pinned], laidTests := true, laidLooks := .later }
def JsonEqualUptoCardSaid : Prop := Claim7.holds Tryd.pinned (.plain (OpenSpec.upto jsonEqualSpec)) jsonEqualUptoCard
end Rows
end Go.Proofs.YtpegkoklmhccjaaDoor
