/-
  DERIVED. GIVEN WITH THE SEED: THE CARDS: each row of YteamnhpplclmfaaGreatDoorRows.lean that lists a variable, with what it lists TIED to the program's text (the seventh form; the later family's looks); each row that meets fmt, with fmt's text TOLD by the authors' own Lean function (tested against real Go, not proved from fmt's source: count such statements apart). THE CARD IS WHAT COUNTS. Prove the row's statement (the work); the ties are given (YteamnhpplclmfaaGreatDoorTie.lean); close each card by the builder's one call (the guide's Derived/Test/ToyasCard.lean, 'card_holds'). Laid BY PROGRAM, IN A SANDBOX (cutbox-door.mjs). By AI agents, Wed Nov 11 2026. No macro, syntax, notation, axiom, sorry.
-/
import Derived.Test.YteamnhpplclmfaaGreatDoorRows
import GoSem.ClaimSeven
namespace Go.Proofs.YteamnhpplclmfaaGreatDoor
namespace Rows

/-- THE TIED CARD OF 'cachetlaw08.SegsNone'. -/
def segsNoneCard : Claim7 := { stood := { row := segsNoneRow, standIns := [], harness := (true, "738d321f5d72af028e93c8a4ffc6de25b75efbda953487eba038e9e47393914b"), looks := true }, kinds := [], alts := [], laidByText := true, laidKinds := [.data, .data, .data], laidTests := true, laidLooks := .later }
def SegsNoneCardSaid : Prop := Claim7.holds Tryz.pinned (.plain (OpenSpec.ofChange segsNoneSpec)) segsNoneCard

/-- THE TIED CARD OF 'cachetlaw08.SegsFull'. -/
def segsFullCard : Claim7 := { stood := { row := segsFullRow, standIns := [], harness := (true, "738d321f5d72af028e93c8a4ffc6de25b75efbda953487eba038e9e47393914b"), looks := true }, kinds := [], alts := [], laidByText := true, laidKinds := [.data, .data, .data], laidTests := true, laidLooks := .later }
def SegsFullCardSaid : Prop := Claim7.holds Tryz.pinned (.plain (OpenSpec.ofChange segsFullSpec)) segsFullCard

/-- THE TIED CARD OF 'cachetlaw08.SegsAny'. -/
def segsAnyCard : Claim7 := { stood := { row := segsAnyRow, standIns := [], harness := (true, "738d321f5d72af028e93c8a4ffc6de25b75efbda953487eba038e9e47393914b"), looks := true }, kinds := [], alts := [], laidByText := true, laidKinds := [.data, .data, .data], laidTests := true, laidLooks := .later }
def SegsAnyCardSaid : Prop := Claim7.holds Tryz.pinned (.plain (OpenSpec.ofChange segsAnySpec)) segsAnyCard

/-- THE TIED CARD OF 'cachetlaw08.SegsHolds'. -/
def segsHoldsCard : Claim7 := { stood := { row := segsHoldsRow, standIns := [], harness := (true, "738d321f5d72af028e93c8a4ffc6de25b75efbda953487eba038e9e47393914b"), looks := true }, kinds := [], alts := [], laidByText := true, laidKinds := [.data, .data, .data], laidTests := true, laidLooks := .later }
def SegsHoldsCardSaid : Prop := Claim7.holds Tryz.pinned (.plain (OpenSpec.ofChange segsHoldsSpec)) segsHoldsCard

/-- THE TIED CARD OF 'cachetlaw08.SegsPlays'. -/
def segsPlaysCard : Claim7 := { stood := { row := segsPlaysRow, standIns := [], harness := (true, "738d321f5d72af028e93c8a4ffc6de25b75efbda953487eba038e9e47393914b"), looks := true }, kinds := [], alts := [], laidByText := true, laidKinds := [.data, .data, .data], laidTests := true, laidLooks := .later }
def SegsPlaysCardSaid : Prop := Claim7.holds Tryz.pinned (.plain (OpenSpec.ofChange segsPlaysSpec)) segsPlaysCard

/-- THE TIED CARD OF 'cachetlaw08.SegsOpens'. -/
def segsOpensCard : Claim7 := { stood := { row := segsOpensRow, standIns := [], harness := (true, "738d321f5d72af028e93c8a4ffc6de25b75efbda953487eba038e9e47393914b"), looks := true }, kinds := [], alts := [], laidByText := true, laidKinds := [.data, .data, .data], laidTests := true, laidLooks := .later }
def SegsOpensCardSaid : Prop := Claim7.holds Tryz.pinned (.plain (OpenSpec.ofChange segsOpensSpec)) segsOpensCard

/-- THE SECOND FORM's CARD OF 'cachetlaw08.SegsNone'. -/
def segsNoneUptoCard : Claim7 := { stood := { row := segsNoneUptoRow, standIns := [], harness := (true, "738d321f5d72af028e93c8a4ffc6de25b75efbda953487eba038e9e47393914b"), looks := true }, kinds := [], alts := [], laidByText := true, laidKinds := [.data, .data, .data], laidTests := true, laidLooks := .later }
def SegsNoneUptoCardSaid : Prop := Claim7.holds Tryz.pinned (.plain (OpenSpec.upto segsNoneSpec)) segsNoneUptoCard

/-- THE SECOND FORM's CARD OF 'cachetlaw08.SegsFull'. -/
def segsFullUptoCard : Claim7 := { stood := { row := segsFullUptoRow, standIns := [], harness := (true, "738d321f5d72af028e93c8a4ffc6de25b75efbda953487eba038e9e47393914b"), looks := true }, kinds := [], alts := [], laidByText := true, laidKinds := [.data, .data, .data], laidTests := true, laidLooks := .later }
def SegsFullUptoCardSaid : Prop := Claim7.holds Tryz.pinned (.plain (OpenSpec.upto segsFullSpec)) segsFullUptoCard

/-- THE SECOND FORM's CARD OF 'cachetlaw08.SegsAny'. -/
def segsAnyUptoCard : Claim7 := { stood := { row := segsAnyUptoRow, standIns := [], harness := (true, "738d321f5d72af028e93c8a4ffc6de25b75efbda953487eba038e9e47393914b"), looks := true }, kinds := [], alts := [], laidByText := true, laidKinds := [.data, .data, .data], laidTests := true, laidLooks := .later }
def SegsAnyUptoCardSaid : Prop := Claim7.holds Tryz.pinned (.plain (OpenSpec.upto segsAnySpec)) segsAnyUptoCard

/-- THE SECOND FORM's CARD OF 'cachetlaw08.SegsHolds'. -/
def segsHoldsUptoCard : Claim7 := { stood := { row := segsHoldsUptoRow, standIns := [], harness := (true, "738d321f5d72af028e93c8a4ffc6de25b75efbda953487eba038e9e47393914b"), looks := true }, kinds := [], alts := [], laidByText := true, laidKinds := [.data, .data, .data], laidTests := true, laidLooks := .later }
def SegsHoldsUptoCardSaid : Prop := Claim7.holds Tryz.pinned (.plain (OpenSpec.upto segsHoldsSpec)) segsHoldsUptoCard

/-- THE SECOND FORM's CARD OF 'cachetlaw08.SegsPlays'. -/
def segsPlaysUptoCard : Claim7 := { stood := { row := segsPlaysUptoRow, standIns := [], harness := (true, "738d321f5d72af028e93c8a4ffc6de25b75efbda953487eba038e9e47393914b"), looks := true }, kinds := [], alts := [], laidByText := true, laidKinds := [.data, .data, .data], laidTests := true, laidLooks := .later }
def SegsPlaysUptoCardSaid : Prop := Claim7.holds Tryz.pinned (.plain (OpenSpec.upto segsPlaysSpec)) segsPlaysUptoCard

/-- THE SECOND FORM's CARD OF 'cachetlaw08.SegsOpens'. -/
def segsOpensUptoCard : Claim7 := { stood := { row := segsOpensUptoRow, standIns := [], harness := (true, "738d321f5d72af028e93c8a4ffc6de25b75efbda953487eba038e9e47393914b"), looks := true }, kinds := [], alts := [], laidByText := true, laidKinds := [.data, .data, .data], laidTests := true, laidLooks := .later }
def SegsOpensUptoCardSaid : Prop := Claim7.holds Tryz.pinned (.plain (OpenSpec.upto segsOpensSpec)) segsOpensUptoCard
end Rows
end Go.Proofs.YteamnhpplclmfaaGreatDoor
