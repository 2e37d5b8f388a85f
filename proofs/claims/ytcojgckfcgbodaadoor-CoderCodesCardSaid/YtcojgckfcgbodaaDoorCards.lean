/-
  DERIVED. GIVEN WITH THE SEED: THE CARDS: each row of YtcojgckfcgbodaaDoorRows.lean that lists a variable, with what it lists TIED to the program's text (the seventh form; the later family's looks); each row that meets fmt, with fmt's text TOLD by the authors' own Lean function (tested against real Go, not proved from fmt's source: count such statements apart). THE CARD IS WHAT COUNTS. Prove the row's statement (the work); the ties are given (YtcojgckfcgbodaaDoorTie.lean); close each card by the builder's one call (the guide's Derived/Test/ToyasCard.lean, 'card_holds'). Laid BY PROGRAM, IN A SANDBOX (cutbox-door.mjs). By AI agents, Wed Nov 11 2026. No macro, syntax, notation, axiom, sorry.
-/
import Derived.Test.YtcojgckfcgbodaaDoorRows
import GoSem.ClaimSeven
namespace Go.Proofs.YtcojgckfcgbodaaDoor
namespace Rows

/-- THE TIED CARD OF 'cachetlaw14.CoderCodes'. -/
def coderCodesCard : Claim7 := { stood := { row := coderCodesRow, standIns := [], harness := (true, "039bd06b9e14bba8e66f961d89ced3949354249c2359a22b6964b045500a8e6f"), looks := true }, kinds := [], alts := [], laidByText := true, laidKinds := [.data, .pinned], laidTests := true, laidLooks := .later }
def CoderCodesCardSaid : Prop := Claim7.holds Tryd.pinned (.plain (OpenSpec.ofChange coderCodesSpec)) coderCodesCard

/-- THE TIED CARD OF 'cachetlaw14.CoderDecodes'. -/
def coderDecodesCard : Claim7 := { stood := { row := coderDecodesRow, standIns := [], harness := (true, "039bd06b9e14bba8e66f961d89ced3949354249c2359a22b6964b045500a8e6f"), looks := true }, kinds := [], alts := [], laidByText := true, laidKinds := [.data, .pinned], laidTests := true, laidLooks := .later }
def CoderDecodesCardSaid : Prop := Claim7.holds Tryd.pinned (.plain (OpenSpec.ofChange coderDecodesSpec)) coderDecodesCard

/-- THE TIED CARD OF 'cachetlaw14.CoderFixed'. -/
def coderFixedCard : Claim7 := { stood := { row := coderFixedRow, standIns := [], harness := (true, "039bd06b9e14bba8e66f961d89ced3949354249c2359a22b6964b045500a8e6f"), looks := true }, kinds := [], alts := [], laidByText := true, laidKinds := [.data, .pinned], laidTests := true, laidLooks := .later }
def CoderFixedCardSaid : Prop := Claim7.holds Tryd.pinned (.plain (OpenSpec.ofChange coderFixedSpec)) coderFixedCard

/-- THE SECOND FORM's CARD OF 'cachetlaw14.CoderCodes'. -/
def coderCodesUptoCard : Claim7 := { stood := { row := coderCodesUptoRow, standIns := [], harness := (true, "039bd06b9e14bba8e66f961d89ced3949354249c2359a22b6964b045500a8e6f"), looks := true }, kinds := [], alts := [], laidByText := true, laidKinds := [.data, .pinned], laidTests := true, laidLooks := .later }
def CoderCodesUptoCardSaid : Prop := Claim7.holds Tryd.pinned (.plain (OpenSpec.upto coderCodesSpec)) coderCodesUptoCard

/-- THE SECOND FORM's CARD OF 'cachetlaw14.CoderDecodes'. -/
def coderDecodesUptoCard : Claim7 := { stood := { row := coderDecodesUptoRow, standIns := [], harness := (true, "039bd06b9e14bba8e66f961d89ced3949354249c2359a22b6964b045500a8e6f"), looks := true }, kinds := [], alts := [], laidByText := true, laidKinds := [.data, .pinned], laidTests := true, laidLooks := .later }
def CoderDecodesUptoCardSaid : Prop := Claim7.holds Tryd.pinned (.plain (OpenSpec.upto coderDecodesSpec)) coderDecodesUptoCard

/-- THE SECOND FORM's CARD OF 'cachetlaw14.CoderFixed'. -/
def coderFixedUptoCard : Claim7 := { stood := { row := coderFixedUptoRow, standIns := [], harness := (true, "039bd06b9e14bba8e66f961d89ced3949354249c2359a22b6964b045500a8e6f"), looks := true }, kinds := [], alts := [], laidByText := true, laidKinds := [.data, .pinned], laidTests := true, laidLooks := .later }
def CoderFixedUptoCardSaid : Prop := Claim7.holds Tryd.pinned (.plain (OpenSpec.upto coderFixedSpec)) coderFixedUptoCard
end Rows
end Go.Proofs.YtcojgckfcgbodaaDoor
