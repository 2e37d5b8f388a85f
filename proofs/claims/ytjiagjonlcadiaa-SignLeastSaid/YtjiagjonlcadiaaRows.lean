/-
  No cell of these rows narrows 'for every input' (looked for: loops, veiled, ifaces, maps, wideKeys, modest, calm, conditions, laid).
  DERIVED. THE GIVEN ROWS OF THIS SEAT. 20 by the template 'for every input the law returns true; each argument reads behind the call as it read before'; 0 by the template 'total and deterministic' (their statements: YtjiagjonlcadiaaTotals.lean).
  GIVEN WITH THE SEED: the statements are not yours to turn. If you find one false, say at which input.
  Laid BY PROGRAM, IN A SANDBOX (cutbox-rows.mjs): the forced cells as the released guide's own fill.sh prints them over the translation affda6e092850a22… (all of the seat's roots in one cut). By AI agents, Wed Nov 11 2026. No macro, syntax, notation, axiom, sorry.
-/
import Derived.Test.YtjiagjonlcadiaaChecked
import GoSem.Claim
import GoSem.ClaimJoined
import GoSem.ClaimMapViews
import Derived.JoinedTies
import Derived.KernelRfl
namespace Go.Proofs.Ytjiagjonlcadiaa
/- THE CELL 'sum', in the pinned program and in every row, IS THE sha256 OF THE DUMP (.gsa) THAT YtjiagjonlcadiaaProg.lean LOADS. Nothing in Lean hashes anything: it is a label: what it is worth is what the hold of that sum in a sandbox is worth. -/
noncomputable def Try.pinned : Pinned := { name := "ytjiagjonlcadiaa", sum := "affda6e092850a2294c560c455a5dc9eea8eb880c5d325d81beb3c8fe0475ffe", checked := Try.checked }
namespace Rows
def none {H : Type} : Left H := { results := [], args := [] }

/-- 'cachetlaw04.CurveResidues': WHATEVER THE INPUT: true; the input reads as it did. -/
def curveResiduesSpec : ChangeSpec := { name := "curveResidues", fn := fun _ => fun
  | [d] => { results := [.lit (.bool true)], args := [d] }
  | _ => none }
def curveResiduesRow : OpenClaim := { program := "ytjiagjonlcadiaa", sum := "affda6e092850a2294c560c455a5dc9eea8eb880c5d325d81beb3c8fe0475ffe", func := "cachet/cachetlaw04.CurveResidues", spec := "curveResidues", unfollowed := true, recurses := true, apart := false }
def CurveResiduesSaid : Prop := curveResiduesRow.holds Try.pinned (OpenSpec.ofChange curveResiduesSpec)

/-- ITS FALSE NEIGHBOUR: 'it returns false'. Refute it at one input. -/
def curveResiduesWrong : ChangeSpec := { name := "curveResidues", fn := fun _ => fun
  | [d] => { results := [.lit (.bool false)], args := [d] }
  | _ => none }
def CurveResiduesWrongFalsely : Prop := curveResiduesRow.holds Try.pinned (OpenSpec.ofChange curveResiduesWrong)

/-- 'cachetlaw04.CurveTimes': WHATEVER THE INPUT: true; the input reads as it did. -/
def curveTimesSpec : ChangeSpec := { name := "curveTimes", fn := fun _ => fun
  | [d1, d2, d3] => { results := [.lit (.bool true)], args := [d1, d2, d3] }
  | _ => none }
def curveTimesRow : OpenClaim := { program := "ytjiagjonlcadiaa", sum := "affda6e092850a2294c560c455a5dc9eea8eb880c5d325d81beb3c8fe0475ffe", func := "cachet/cachetlaw04.CurveTimes", spec := "curveTimes", unfollowed := true, recurses := true, apart := false }
def CurveTimesSaid : Prop := curveTimesRow.holds Try.pinned (OpenSpec.ofChange curveTimesSpec)

/-- ITS FALSE NEIGHBOUR: 'it returns false'. Refute it at one input. -/
def curveTimesWrong : ChangeSpec := { name := "curveTimes", fn := fun _ => fun
  | [d1, d2, d3] => { results := [.lit (.bool false)], args := [d1, d2, d3] }
  | _ => none }
def CurveTimesWrongFalsely : Prop := curveTimesRow.holds Try.pinned (OpenSpec.ofChange curveTimesWrong)

/-- 'cachetlaw03.FieldProducts': WHATEVER THE INPUT: true; the input reads as it did. -/
def fieldProductsSpec : ChangeSpec := { name := "fieldProducts", fn := fun _ => fun
  | [d1, d2] => { results := [.lit (.bool true)], args := [d1, d2] }
  | _ => none }
def fieldProductsRow : OpenClaim := { program := "ytjiagjonlcadiaa", sum := "affda6e092850a2294c560c455a5dc9eea8eb880c5d325d81beb3c8fe0475ffe", func := "cachet/cachetlaw03.FieldProducts", spec := "fieldProducts", inPlace := ["math/bits.Sub64", "math/bits.Add64"], unfollowed := true, recurses := true, apart := false }
def FieldProductsSaid : Prop := fieldProductsRow.holds Try.pinned (OpenSpec.ofChange fieldProductsSpec)

/-- ITS FALSE NEIGHBOUR: 'it returns false'. Refute it at one input. -/
def fieldProductsWrong : ChangeSpec := { name := "fieldProducts", fn := fun _ => fun
  | [d1, d2] => { results := [.lit (.bool false)], args := [d1, d2] }
  | _ => none }
def FieldProductsWrongFalsely : Prop := fieldProductsRow.holds Try.pinned (OpenSpec.ofChange fieldProductsWrong)

/-- 'cachetlaw03.FieldOf': WHATEVER THE INPUT: true; the input reads as it did. -/
def fieldOfSpec : ChangeSpec := { name := "fieldOf", fn := fun _ => fun
  | [d1, d2] => { results := [.lit (.bool true)], args := [d1, d2] }
  | _ => none }
def fieldOfRow : OpenClaim := { program := "ytjiagjonlcadiaa", sum := "affda6e092850a2294c560c455a5dc9eea8eb880c5d325d81beb3c8fe0475ffe", func := "cachet/cachetlaw03.FieldOf", spec := "fieldOf", inPlace := ["math/bits.Sub64", "math/bits.Add64"], unfollowed := true, recurses := true, apart := false }
def FieldOfSaid : Prop := fieldOfRow.holds Try.pinned (OpenSpec.ofChange fieldOfSpec)

/-- ITS FALSE NEIGHBOUR: 'it returns false'. Refute it at one input. -/
def fieldOfWrong : ChangeSpec := { name := "fieldOf", fn := fun _ => fun
  | [d1, d2] => { results := [.lit (.bool false)], args := [d1, d2] }
  | _ => none }
def FieldOfWrongFalsely : Prop := fieldOfRow.holds Try.pinned (OpenSpec.ofChange fieldOfWrong)

/-- 'cachetlaw03.FieldSums': WHATEVER THE INPUT: true; the input reads as it did. -/
def fieldSumsSpec : ChangeSpec := { name := "fieldSums", fn := fun _ => fun
  | [d1, d2] => { results := [.lit (.bool true)], args := [d1, d2] }
  | _ => none }
def fieldSumsRow : OpenClaim := { program := "ytjiagjonlcadiaa", sum := "affda6e092850a2294c560c455a5dc9eea8eb880c5d325d81beb3c8fe0475ffe", func := "cachet/cachetlaw03.FieldSums", spec := "fieldSums", inPlace := ["math/bits.Sub64", "math/bits.Add64"], unfollowed := true, recurses := true, apart := false }
def FieldSumsSaid : Prop := fieldSumsRow.holds Try.pinned (OpenSpec.ofChange fieldSumsSpec)

/-- ITS FALSE NEIGHBOUR: 'it returns false'. Refute it at one input. -/
def fieldSumsWrong : ChangeSpec := { name := "fieldSums", fn := fun _ => fun
  | [d1, d2] => { results := [.lit (.bool false)], args := [d1, d2] }
  | _ => none }
def FieldSumsWrongFalsely : Prop := fieldSumsRow.holds Try.pinned (OpenSpec.ofChange fieldSumsWrong)

/-- 'cachetlaw03.FieldQuotients': WHATEVER THE INPUT: true; the input reads as it did. -/
def fieldQuotientsSpec : ChangeSpec := { name := "fieldQuotients", fn := fun _ => fun
  | [d1, d2] => { results := [.lit (.bool true)], args := [d1, d2] }
  | _ => none }
def fieldQuotientsRow : OpenClaim := { program := "ytjiagjonlcadiaa", sum := "affda6e092850a2294c560c455a5dc9eea8eb880c5d325d81beb3c8fe0475ffe", func := "cachet/cachetlaw03.FieldQuotients", spec := "fieldQuotients", inPlace := ["math/bits.Add64", "math/bits.Sub64"], unfollowed := true, recurses := true, apart := false }
def FieldQuotientsSaid : Prop := fieldQuotientsRow.holds Try.pinned (OpenSpec.ofChange fieldQuotientsSpec)

/-- ITS FALSE NEIGHBOUR: 'it returns false'. Refute it at one input. -/
def fieldQuotientsWrong : ChangeSpec := { name := "fieldQuotients", fn := fun _ => fun
  | [d1, d2] => { results := [.lit (.bool false)], args := [d1, d2] }
  | _ => none }
def FieldQuotientsWrongFalsely : Prop := fieldQuotientsRow.holds Try.pinned (OpenSpec.ofChange fieldQuotientsWrong)

/-- 'cachetlaw03.FieldRules': WHATEVER THE INPUT: true; the input reads as it did. -/
def fieldRulesSpec : ChangeSpec := { name := "fieldRules", fn := fun _ => fun
  | [d1, d2, d3] => { results := [.lit (.bool true)], args := [d1, d2, d3] }
  | _ => none }
def fieldRulesRow : OpenClaim := { program := "ytjiagjonlcadiaa", sum := "affda6e092850a2294c560c455a5dc9eea8eb880c5d325d81beb3c8fe0475ffe", func := "cachet/cachetlaw03.FieldRules", spec := "fieldRules", inPlace := ["math/bits.Sub64", "math/bits.Add64"], unfollowed := true, recurses := true, apart := false }
def FieldRulesSaid : Prop := fieldRulesRow.holds Try.pinned (OpenSpec.ofChange fieldRulesSpec)

/-- ITS FALSE NEIGHBOUR: 'it returns false'. Refute it at one input. -/
def fieldRulesWrong : ChangeSpec := { name := "fieldRules", fn := fun _ => fun
  | [d1, d2, d3] => { results := [.lit (.bool false)], args := [d1, d2, d3] }
  | _ => none }
def FieldRulesWrongFalsely : Prop := fieldRulesRow.holds Try.pinned (OpenSpec.ofChange fieldRulesWrong)

/-- 'cachetlaw03.FieldRoots': WHATEVER THE INPUT: true; the input reads as it did. -/
def fieldRootsSpec : ChangeSpec := { name := "fieldRoots", fn := fun _ => fun
  | [d] => { results := [.lit (.bool true)], args := [d] }
  | _ => none }
def fieldRootsRow : OpenClaim := { program := "ytjiagjonlcadiaa", sum := "affda6e092850a2294c560c455a5dc9eea8eb880c5d325d81beb3c8fe0475ffe", func := "cachet/cachetlaw03.FieldRoots", spec := "fieldRoots", inPlace := ["math/bits.Add64", "math/bits.Sub64"], unfollowed := true, recurses := true, apart := false }
def FieldRootsSaid : Prop := fieldRootsRow.holds Try.pinned (OpenSpec.ofChange fieldRootsSpec)

/-- ITS FALSE NEIGHBOUR: 'it returns false'. Refute it at one input. -/
def fieldRootsWrong : ChangeSpec := { name := "fieldRoots", fn := fun _ => fun
  | [d] => { results := [.lit (.bool false)], args := [d] }
  | _ => none }
def FieldRootsWrongFalsely : Prop := fieldRootsRow.holds Try.pinned (OpenSpec.ofChange fieldRootsWrong)

/-- 'cachetlaw03.FieldSquares': WHATEVER THE INPUT: true; the input reads as it did. -/
def fieldSquaresSpec : ChangeSpec := { name := "fieldSquares", fn := fun _ => fun
  | [d1, d2] => { results := [.lit (.bool true)], args := [d1, d2] }
  | _ => none }
def fieldSquaresRow : OpenClaim := { program := "ytjiagjonlcadiaa", sum := "affda6e092850a2294c560c455a5dc9eea8eb880c5d325d81beb3c8fe0475ffe", func := "cachet/cachetlaw03.FieldSquares", spec := "fieldSquares", inPlace := ["math/bits.Add64", "math/bits.Sub64"], unfollowed := true, recurses := true, apart := false }
def FieldSquaresSaid : Prop := fieldSquaresRow.holds Try.pinned (OpenSpec.ofChange fieldSquaresSpec)

/-- ITS FALSE NEIGHBOUR: 'it returns false'. Refute it at one input. -/
def fieldSquaresWrong : ChangeSpec := { name := "fieldSquares", fn := fun _ => fun
  | [d1, d2] => { results := [.lit (.bool false)], args := [d1, d2] }
  | _ => none }
def FieldSquaresWrongFalsely : Prop := fieldSquaresRow.holds Try.pinned (OpenSpec.ofChange fieldSquaresWrong)

/-- 'cachetlaw04.CurveOf': WHATEVER THE INPUT: true; the input reads as it did. -/
def curveOfSpec : ChangeSpec := { name := "curveOf", fn := fun _ => fun
  | [d] => { results := [.lit (.bool true)], args := [d] }
  | _ => none }
def curveOfRow : OpenClaim := { program := "ytjiagjonlcadiaa", sum := "affda6e092850a2294c560c455a5dc9eea8eb880c5d325d81beb3c8fe0475ffe", func := "cachet/cachetlaw04.CurveOf", spec := "curveOf", inPlace := ["math/bits.Sub64", "math/bits.Add64"], unfollowed := true, recurses := true, apart := false }
def CurveOfSaid : Prop := curveOfRow.holds Try.pinned (OpenSpec.ofChange curveOfSpec)

/-- ITS FALSE NEIGHBOUR: 'it returns false'. Refute it at one input. -/
def curveOfWrong : ChangeSpec := { name := "curveOf", fn := fun _ => fun
  | [d] => { results := [.lit (.bool false)], args := [d] }
  | _ => none }
def CurveOfWrongFalsely : Prop := curveOfRow.holds Try.pinned (OpenSpec.ofChange curveOfWrong)

/-- 'cachetlaw04.CurveSums': WHATEVER THE INPUT: true; the input reads as it did. -/
def curveSumsSpec : ChangeSpec := { name := "curveSums", fn := fun _ => fun
  | [d1, d2] => { results := [.lit (.bool true)], args := [d1, d2] }
  | _ => none }
def curveSumsRow : OpenClaim := { program := "ytjiagjonlcadiaa", sum := "affda6e092850a2294c560c455a5dc9eea8eb880c5d325d81beb3c8fe0475ffe", func := "cachet/cachetlaw04.CurveSums", spec := "curveSums", inPlace := ["math/bits.Sub64", "math/bits.Add64"], unfollowed := true, recurses := true, apart := false }
def CurveSumsSaid : Prop := curveSumsRow.holds Try.pinned (OpenSpec.ofChange curveSumsSpec)

/-- ITS FALSE NEIGHBOUR: 'it returns false'. Refute it at one input. -/
def curveSumsWrong : ChangeSpec := { name := "curveSums", fn := fun _ => fun
  | [d1, d2] => { results := [.lit (.bool false)], args := [d1, d2] }
  | _ => none }
def CurveSumsWrongFalsely : Prop := curveSumsRow.holds Try.pinned (OpenSpec.ofChange curveSumsWrong)

/-- 'cachetlaw04.CurveMany': WHATEVER THE INPUT: true; the input reads as it did. -/
def curveManySpec : ChangeSpec := { name := "curveMany", fn := fun _ => fun
  | [d1, d2] => { results := [.lit (.bool true)], args := [d1, d2] }
  | _ => none }
def curveManyRow : OpenClaim := { program := "ytjiagjonlcadiaa", sum := "affda6e092850a2294c560c455a5dc9eea8eb880c5d325d81beb3c8fe0475ffe", func := "cachet/cachetlaw04.CurveMany", spec := "curveMany", inPlace := ["math/bits.Sub64", "math/bits.Add64"], unfollowed := true, recurses := true, apart := false }
def CurveManySaid : Prop := curveManyRow.holds Try.pinned (OpenSpec.ofChange curveManySpec)

/-- ITS FALSE NEIGHBOUR: 'it returns false'. Refute it at one input. -/
def curveManyWrong : ChangeSpec := { name := "curveMany", fn := fun _ => fun
  | [d1, d2] => { results := [.lit (.bool false)], args := [d1, d2] }
  | _ => none }
def CurveManyWrongFalsely : Prop := curveManyRow.holds Try.pinned (OpenSpec.ofChange curveManyWrong)

/-- 'cachetlaw04.CurveAdds': WHATEVER THE INPUT: true; the input reads as it did. -/
def curveAddsSpec : ChangeSpec := { name := "curveAdds", fn := fun _ => fun
  | [d1, d2, d3] => { results := [.lit (.bool true)], args := [d1, d2, d3] }
  | _ => none }
def curveAddsRow : OpenClaim := { program := "ytjiagjonlcadiaa", sum := "affda6e092850a2294c560c455a5dc9eea8eb880c5d325d81beb3c8fe0475ffe", func := "cachet/cachetlaw04.CurveAdds", spec := "curveAdds", inPlace := ["math/bits.Sub64", "math/bits.Add64"], unfollowed := true, recurses := true, apart := false }
def CurveAddsSaid : Prop := curveAddsRow.holds Try.pinned (OpenSpec.ofChange curveAddsSpec)

/-- ITS FALSE NEIGHBOUR: 'it returns false'. Refute it at one input. -/
def curveAddsWrong : ChangeSpec := { name := "curveAdds", fn := fun _ => fun
  | [d1, d2, d3] => { results := [.lit (.bool false)], args := [d1, d2, d3] }
  | _ => none }
def CurveAddsWrongFalsely : Prop := curveAddsRow.holds Try.pinned (OpenSpec.ofChange curveAddsWrong)

/-- 'cachetlaw04.CurveGroup': WHATEVER THE INPUT: true; the input reads as it did. -/
def curveGroupSpec : ChangeSpec := { name := "curveGroup", fn := fun _ => fun
  | [d1, d2, d3] => { results := [.lit (.bool true)], args := [d1, d2, d3] }
  | _ => none }
def curveGroupRow : OpenClaim := { program := "ytjiagjonlcadiaa", sum := "affda6e092850a2294c560c455a5dc9eea8eb880c5d325d81beb3c8fe0475ffe", func := "cachet/cachetlaw04.CurveGroup", spec := "curveGroup", inPlace := ["math/bits.Sub64", "math/bits.Add64"], unfollowed := true, recurses := true, apart := false }
def CurveGroupSaid : Prop := curveGroupRow.holds Try.pinned (OpenSpec.ofChange curveGroupSpec)

/-- ITS FALSE NEIGHBOUR: 'it returns false'. Refute it at one input. -/
def curveGroupWrong : ChangeSpec := { name := "curveGroup", fn := fun _ => fun
  | [d1, d2, d3] => { results := [.lit (.bool false)], args := [d1, d2, d3] }
  | _ => none }
def CurveGroupWrongFalsely : Prop := curveGroupRow.holds Try.pinned (OpenSpec.ofChange curveGroupWrong)

/-- 'cachetlaw05.SignPublic': WHATEVER THE INPUT: true; the input reads as it did. -/
def signPublicSpec : ChangeSpec := { name := "signPublic", fn := fun _ => fun
  | [d] => { results := [.lit (.bool true)], args := [d] }
  | _ => none }
def signPublicRow : OpenClaim := { program := "ytjiagjonlcadiaa", sum := "affda6e092850a2294c560c455a5dc9eea8eb880c5d325d81beb3c8fe0475ffe", func := "cachet/cachetlaw05.SignPublic", spec := "signPublic", inPlace := ["math/bits.Sub64", "math/bits.Add64"], unfollowed := true, recurses := true, apart := false }
def SignPublicSaid : Prop := signPublicRow.holds Try.pinned (OpenSpec.ofChange signPublicSpec)

/-- ITS FALSE NEIGHBOUR: 'it returns false'. Refute it at one input. -/
def signPublicWrong : ChangeSpec := { name := "signPublic", fn := fun _ => fun
  | [d] => { results := [.lit (.bool false)], args := [d] }
  | _ => none }
def SignPublicWrongFalsely : Prop := signPublicRow.holds Try.pinned (OpenSpec.ofChange signPublicWrong)

/-- 'cachetlaw05.SignSigns': WHATEVER THE INPUT: true; the input reads as it did. -/
def signSignsSpec : ChangeSpec := { name := "signSigns", fn := fun _ => fun
  | [d1, d2] => { results := [.lit (.bool true)], args := [d1, d2] }
  | _ => none }
def signSignsRow : OpenClaim := { program := "ytjiagjonlcadiaa", sum := "affda6e092850a2294c560c455a5dc9eea8eb880c5d325d81beb3c8fe0475ffe", func := "cachet/cachetlaw05.SignSigns", spec := "signSigns", inPlace := ["math/bits.Sub64", "math/bits.Add64"], unfollowed := true, recurses := true, apart := false }
def SignSignsSaid : Prop := signSignsRow.holds Try.pinned (OpenSpec.ofChange signSignsSpec)

/-- ITS FALSE NEIGHBOUR: 'it returns false'. Refute it at one input. -/
def signSignsWrong : ChangeSpec := { name := "signSigns", fn := fun _ => fun
  | [d1, d2] => { results := [.lit (.bool false)], args := [d1, d2] }
  | _ => none }
def SignSignsWrongFalsely : Prop := signSignsRow.holds Try.pinned (OpenSpec.ofChange signSignsWrong)

/-- 'cachetlaw05.SignRight': WHATEVER THE INPUT: true; the input reads as it did. -/
def signRightSpec : ChangeSpec := { name := "signRight", fn := fun _ => fun
  | [d] => { results := [.lit (.bool true)], args := [d] }
  | _ => none }
def signRightRow : OpenClaim := { program := "ytjiagjonlcadiaa", sum := "affda6e092850a2294c560c455a5dc9eea8eb880c5d325d81beb3c8fe0475ffe", func := "cachet/cachetlaw05.SignRight", spec := "signRight", inPlace := ["math/bits.Sub64", "math/bits.Add64"], unfollowed := true, recurses := true, apart := false }
def SignRightSaid : Prop := signRightRow.holds Try.pinned (OpenSpec.ofChange signRightSpec)

/-- ITS FALSE NEIGHBOUR: 'it returns false'. Refute it at one input. -/
def signRightWrong : ChangeSpec := { name := "signRight", fn := fun _ => fun
  | [d] => { results := [.lit (.bool false)], args := [d] }
  | _ => none }
def SignRightWrongFalsely : Prop := signRightRow.holds Try.pinned (OpenSpec.ofChange signRightWrong)

/-- 'cachetlaw05.SignBack': WHATEVER THE INPUT: true; the input reads as it did. -/
def signBackSpec : ChangeSpec := { name := "signBack", fn := fun _ => fun
  | [d1, d2, d3] => { results := [.lit (.bool true)], args := [d1, d2, d3] }
  | _ => none }
def signBackRow : OpenClaim := { program := "ytjiagjonlcadiaa", sum := "affda6e092850a2294c560c455a5dc9eea8eb880c5d325d81beb3c8fe0475ffe", func := "cachet/cachetlaw05.SignBack", spec := "signBack", inPlace := ["math/bits.Sub64", "math/bits.Add64"], unfollowed := true, recurses := true, apart := false }
def SignBackSaid : Prop := signBackRow.holds Try.pinned (OpenSpec.ofChange signBackSpec)

/-- ITS FALSE NEIGHBOUR: 'it returns false'. Refute it at one input. -/
def signBackWrong : ChangeSpec := { name := "signBack", fn := fun _ => fun
  | [d1, d2, d3] => { results := [.lit (.bool false)], args := [d1, d2, d3] }
  | _ => none }
def SignBackWrongFalsely : Prop := signBackRow.holds Try.pinned (OpenSpec.ofChange signBackWrong)

/-- 'cachetlaw05.SignLeast': WHATEVER THE INPUT: true; the input reads as it did. -/
def signLeastSpec : ChangeSpec := { name := "signLeast", fn := fun _ => fun
  | [d1, d2] => { results := [.lit (.bool true)], args := [d1, d2] }
  | _ => none }
def signLeastRow : OpenClaim := { program := "ytjiagjonlcadiaa", sum := "affda6e092850a2294c560c455a5dc9eea8eb880c5d325d81beb3c8fe0475ffe", func := "cachet/cachetlaw05.SignLeast", spec := "signLeast", inPlace := ["math/bits.Sub64", "math/bits.Add64"], unfollowed := true, recurses := true, apart := false }
def SignLeastSaid : Prop := signLeastRow.holds Try.pinned (OpenSpec.ofChange signLeastSpec)

/-- ITS FALSE NEIGHBOUR: 'it returns false'. Refute it at one input. -/
def signLeastWrong : ChangeSpec := { name := "signLeast", fn := fun _ => fun
  | [d1, d2] => { results := [.lit (.bool false)], args := [d1, d2] }
  | _ => none }
def SignLeastWrongFalsely : Prop := signLeastRow.holds Try.pinned (OpenSpec.ofChange signLeastWrong)

/-- 'cachetlaw05.SignOther': WHATEVER THE INPUT: true; the input reads as it did. -/
def signOtherSpec : ChangeSpec := { name := "signOther", fn := fun _ => fun
  | [d1, d2, d3] => { results := [.lit (.bool true)], args := [d1, d2, d3] }
  | _ => none }
def signOtherRow : OpenClaim := { program := "ytjiagjonlcadiaa", sum := "affda6e092850a2294c560c455a5dc9eea8eb880c5d325d81beb3c8fe0475ffe", func := "cachet/cachetlaw05.SignOther", spec := "signOther", inPlace := ["math/bits.Sub64", "math/bits.Add64"], unfollowed := true, recurses := true, apart := false }
def SignOtherSaid : Prop := signOtherRow.holds Try.pinned (OpenSpec.ofChange signOtherSpec)

/-- ITS FALSE NEIGHBOUR: 'it returns false'. Refute it at one input. -/
def signOtherWrong : ChangeSpec := { name := "signOther", fn := fun _ => fun
  | [d1, d2, d3] => { results := [.lit (.bool false)], args := [d1, d2, d3] }
  | _ => none }
def SignOtherWrongFalsely : Prop := signOtherRow.holds Try.pinned (OpenSpec.ofChange signOtherWrong)

/- THE SECOND FORM. 'bulk': how many values and letters a reading holds, each counted each time it is reached (what is shared counts as often as it is met; a slice's spare places count too). A statement '..UptoSaid' is the law's where the arguments, and the package variables that the reading takes, are together of bulk at most 1048576: NARROWER than '..Said'. Prove '..Said' where nothing that the law and all that it calls make is longer than what came in: it says more and counts as full. Else prove '..UptoSaid'. A law counts once. -/
mutual
def uptoBulk {H : Type} : DataW H → Nat
  | .lit (.string bytes) => bytes.length + 1
  | .lit _ => 1
  | .nil => 1
  | .ptr d => uptoBulk d + 1
  | .slice elems spare => uptoBulkAll elems + uptoBulkAll spare + 1
  | .agg parts => uptoBulkAll parts + 1
  | .iface _ d => uptoBulk d + 1
  | .map entries => uptoBulkEntries entries + 1
  | .held _ => 1
def uptoBulkAll {H : Type} : List (DataW H) → Nat
  | [] => 0
  | d :: r => uptoBulk d + uptoBulkAll r
def uptoBulkEntries {H : Type} : List (Lit × DataW H) → Nat
  | [] => 0
  | x :: r => uptoBulkEntry x + uptoBulkEntries r
def uptoBulkEntry {H : Type} : Lit × DataW H → Nat
  | (.string bytes, d) => bytes.length + uptoBulk d + 1
  | (_, d) => uptoBulk d + 1
 end
def uptoSmall : (H : Type) → List (DataW H) → Bool := fun _ ds => decide (uptoBulkAll ds ≤ 1048576)
def OpenSpec.upto (s : _root_.Go.ChangeSpec) : _root_.Go.OpenSpec := { _root_.Go.OpenSpec.ofChange s with cond := some uptoSmall }

/-- 'cachetlaw04.CurveResidues', WHERE WHAT IT READS IS OF BULK AT MOST 1048576: true; the input reads as it did. -/
def curveResiduesUptoRow : OpenClaim := { program := "ytjiagjonlcadiaa", sum := "affda6e092850a2294c560c455a5dc9eea8eb880c5d325d81beb3c8fe0475ffe", func := "cachet/cachetlaw04.CurveResidues", spec := "curveResidues", unfollowed := true, recurses := true, apart := false, narrowed := true }
def CurveResiduesUptoSaid : Prop := curveResiduesUptoRow.holds Try.pinned (OpenSpec.upto curveResiduesSpec)

/-- 'cachetlaw04.CurveTimes', WHERE WHAT IT READS IS OF BULK AT MOST 1048576: true; the input reads as it did. -/
def curveTimesUptoRow : OpenClaim := { program := "ytjiagjonlcadiaa", sum := "affda6e092850a2294c560c455a5dc9eea8eb880c5d325d81beb3c8fe0475ffe", func := "cachet/cachetlaw04.CurveTimes", spec := "curveTimes", unfollowed := true, recurses := true, apart := false, narrowed := true }
def CurveTimesUptoSaid : Prop := curveTimesUptoRow.holds Try.pinned (OpenSpec.upto curveTimesSpec)

/-- 'cachetlaw03.FieldProducts', WHERE WHAT IT READS IS OF BULK AT MOST 1048576: true; the input reads as it did. -/
def fieldProductsUptoRow : OpenClaim := { program := "ytjiagjonlcadiaa", sum := "affda6e092850a2294c560c455a5dc9eea8eb880c5d325d81beb3c8fe0475ffe", func := "cachet/cachetlaw03.FieldProducts", spec := "fieldProducts", inPlace := ["math/bits.Sub64", "math/bits.Add64"], unfollowed := true, recurses := true, apart := false, narrowed := true }
def FieldProductsUptoSaid : Prop := fieldProductsUptoRow.holds Try.pinned (OpenSpec.upto fieldProductsSpec)

/-- 'cachetlaw03.FieldOf', WHERE WHAT IT READS IS OF BULK AT MOST 1048576: true; the input reads as it did. -/
def fieldOfUptoRow : OpenClaim := { program := "ytjiagjonlcadiaa", sum := "affda6e092850a2294c560c455a5dc9eea8eb880c5d325d81beb3c8fe0475ffe", func := "cachet/cachetlaw03.FieldOf", spec := "fieldOf", inPlace := ["math/bits.Sub64", "math/bits.Add64"], unfollowed := true, recurses := true, apart := false, narrowed := true }
def FieldOfUptoSaid : Prop := fieldOfUptoRow.holds Try.pinned (OpenSpec.upto fieldOfSpec)

/-- 'cachetlaw03.FieldSums', WHERE WHAT IT READS IS OF BULK AT MOST 1048576: true; the input reads as it did. -/
def fieldSumsUptoRow : OpenClaim := { program := "ytjiagjonlcadiaa", sum := "affda6e092850a2294c560c455a5dc9eea8eb880c5d325d81beb3c8fe0475ffe", func := "cachet/cachetlaw03.FieldSums", spec := "fieldSums", inPlace := ["math/bits.Sub64", "math/bits.Add64"], unfollowed := true, recurses := true, apart := false, narrowed := true }
def FieldSumsUptoSaid : Prop := fieldSumsUptoRow.holds Try.pinned (OpenSpec.upto fieldSumsSpec)

/-- 'cachetlaw03.FieldQuotients', WHERE WHAT IT READS IS OF BULK AT MOST 1048576: true; the input reads as it did. -/
def fieldQuotientsUptoRow : OpenClaim := { program := "ytjiagjonlcadiaa", sum := "affda6e092850a2294c560c455a5dc9eea8eb880c5d325d81beb3c8fe0475ffe", func := "cachet/cachetlaw03.FieldQuotients", spec := "fieldQuotients", inPlace := ["math/bits.Add64", "math/bits.Sub64"], unfollowed := true, recurses := true, apart := false, narrowed := true }
def FieldQuotientsUptoSaid : Prop := fieldQuotientsUptoRow.holds Try.pinned (OpenSpec.upto fieldQuotientsSpec)

/-- 'cachetlaw03.FieldRules', WHERE WHAT IT READS IS OF BULK AT MOST 1048576: true; the input reads as it did. -/
def fieldRulesUptoRow : OpenClaim := { program := "ytjiagjonlcadiaa", sum := "affda6e092850a2294c560c455a5dc9eea8eb880c5d325d81beb3c8fe0475ffe", func := "cachet/cachetlaw03.FieldRules", spec := "fieldRules", inPlace := ["math/bits.Sub64", "math/bits.Add64"], unfollowed := true, recurses := true, apart := false, narrowed := true }
def FieldRulesUptoSaid : Prop := fieldRulesUptoRow.holds Try.pinned (OpenSpec.upto fieldRulesSpec)

/-- 'cachetlaw03.FieldRoots', WHERE WHAT IT READS IS OF BULK AT MOST 1048576: true; the input reads as it did. -/
def fieldRootsUptoRow : OpenClaim := { program := "ytjiagjonlcadiaa", sum := "affda6e092850a2294c560c455a5dc9eea8eb880c5d325d81beb3c8fe0475ffe", func := "cachet/cachetlaw03.FieldRoots", spec := "fieldRoots", inPlace := ["math/bits.Add64", "math/bits.Sub64"], unfollowed := true, recurses := true, apart := false, narrowed := true }
def FieldRootsUptoSaid : Prop := fieldRootsUptoRow.holds Try.pinned (OpenSpec.upto fieldRootsSpec)

/-- 'cachetlaw03.FieldSquares', WHERE WHAT IT READS IS OF BULK AT MOST 1048576: true; the input reads as it did. -/
def fieldSquaresUptoRow : OpenClaim := { program := "ytjiagjonlcadiaa", sum := "affda6e092850a2294c560c455a5dc9eea8eb880c5d325d81beb3c8fe0475ffe", func := "cachet/cachetlaw03.FieldSquares", spec := "fieldSquares", inPlace := ["math/bits.Add64", "math/bits.Sub64"], unfollowed := true, recurses := true, apart := false, narrowed := true }
def FieldSquaresUptoSaid : Prop := fieldSquaresUptoRow.holds Try.pinned (OpenSpec.upto fieldSquaresSpec)

/-- 'cachetlaw04.CurveOf', WHERE WHAT IT READS IS OF BULK AT MOST 1048576: true; the input reads as it did. -/
def curveOfUptoRow : OpenClaim := { program := "ytjiagjonlcadiaa", sum := "affda6e092850a2294c560c455a5dc9eea8eb880c5d325d81beb3c8fe0475ffe", func := "cachet/cachetlaw04.CurveOf", spec := "curveOf", inPlace := ["math/bits.Sub64", "math/bits.Add64"], unfollowed := true, recurses := true, apart := false, narrowed := true }
def CurveOfUptoSaid : Prop := curveOfUptoRow.holds Try.pinned (OpenSpec.upto curveOfSpec)

/-- 'cachetlaw04.CurveSums', WHERE WHAT IT READS IS OF BULK AT MOST 1048576: true; the input reads as it did. -/
def curveSumsUptoRow : OpenClaim := { program := "ytjiagjonlcadiaa", sum := "affda6e092850a2294c560c455a5dc9eea8eb880c5d325d81beb3c8fe0475ffe", func := "cachet/cachetlaw04.CurveSums", spec := "curveSums", inPlace := ["math/bits.Sub64", "math/bits.Add64"], unfollowed := true, recurses := true, apart := false, narrowed := true }
def CurveSumsUptoSaid : Prop := curveSumsUptoRow.holds Try.pinned (OpenSpec.upto curveSumsSpec)

/-- 'cachetlaw04.CurveMany', WHERE WHAT IT READS IS OF BULK AT MOST 1048576: true; the input reads as it did. -/
def curveManyUptoRow : OpenClaim := { program := "ytjiagjonlcadiaa", sum := "affda6e092850a2294c560c455a5dc9eea8eb880c5d325d81beb3c8fe0475ffe", func := "cachet/cachetlaw04.CurveMany", spec := "curveMany", inPlace := ["math/bits.Sub64", "math/bits.Add64"], unfollowed := true, recurses := true, apart := false, narrowed := true }
def CurveManyUptoSaid : Prop := curveManyUptoRow.holds Try.pinned (OpenSpec.upto curveManySpec)

/-- 'cachetlaw04.CurveAdds', WHERE WHAT IT READS IS OF BULK AT MOST 1048576: true; the input reads as it did. -/
def curveAddsUptoRow : OpenClaim := { program := "ytjiagjonlcadiaa", sum := "affda6e092850a2294c560c455a5dc9eea8eb880c5d325d81beb3c8fe0475ffe", func := "cachet/cachetlaw04.CurveAdds", spec := "curveAdds", inPlace := ["math/bits.Sub64", "math/bits.Add64"], unfollowed := true, recurses := true, apart := false, narrowed := true }
def CurveAddsUptoSaid : Prop := curveAddsUptoRow.holds Try.pinned (OpenSpec.upto curveAddsSpec)

/-- 'cachetlaw04.CurveGroup', WHERE WHAT IT READS IS OF BULK AT MOST 1048576: true; the input reads as it did. -/
def curveGroupUptoRow : OpenClaim := { program := "ytjiagjonlcadiaa", sum := "affda6e092850a2294c560c455a5dc9eea8eb880c5d325d81beb3c8fe0475ffe", func := "cachet/cachetlaw04.CurveGroup", spec := "curveGroup", inPlace := ["math/bits.Sub64", "math/bits.Add64"], unfollowed := true, recurses := true, apart := false, narrowed := true }
def CurveGroupUptoSaid : Prop := curveGroupUptoRow.holds Try.pinned (OpenSpec.upto curveGroupSpec)

/-- 'cachetlaw05.SignPublic', WHERE WHAT IT READS IS OF BULK AT MOST 1048576: true; the input reads as it did. -/
def signPublicUptoRow : OpenClaim := { program := "ytjiagjonlcadiaa", sum := "affda6e092850a2294c560c455a5dc9eea8eb880c5d325d81beb3c8fe0475ffe", func := "cachet/cachetlaw05.SignPublic", spec := "signPublic", inPlace := ["math/bits.Sub64", "math/bits.Add64"], unfollowed := true, recurses := true, apart := false, narrowed := true }
def SignPublicUptoSaid : Prop := signPublicUptoRow.holds Try.pinned (OpenSpec.upto signPublicSpec)

/-- 'cachetlaw05.SignSigns', WHERE WHAT IT READS IS OF BULK AT MOST 1048576: true; the input reads as it did. -/
def signSignsUptoRow : OpenClaim := { program := "ytjiagjonlcadiaa", sum := "affda6e092850a2294c560c455a5dc9eea8eb880c5d325d81beb3c8fe0475ffe", func := "cachet/cachetlaw05.SignSigns", spec := "signSigns", inPlace := ["math/bits.Sub64", "math/bits.Add64"], unfollowed := true, recurses := true, apart := false, narrowed := true }
def SignSignsUptoSaid : Prop := signSignsUptoRow.holds Try.pinned (OpenSpec.upto signSignsSpec)

/-- 'cachetlaw05.SignRight', WHERE WHAT IT READS IS OF BULK AT MOST 1048576: true; the input reads as it did. -/
def signRightUptoRow : OpenClaim := { program := "ytjiagjonlcadiaa", sum := "affda6e092850a2294c560c455a5dc9eea8eb880c5d325d81beb3c8fe0475ffe", func := "cachet/cachetlaw05.SignRight", spec := "signRight", inPlace := ["math/bits.Sub64", "math/bits.Add64"], unfollowed := true, recurses := true, apart := false, narrowed := true }
def SignRightUptoSaid : Prop := signRightUptoRow.holds Try.pinned (OpenSpec.upto signRightSpec)

/-- 'cachetlaw05.SignBack', WHERE WHAT IT READS IS OF BULK AT MOST 1048576: true; the input reads as it did. -/
def signBackUptoRow : OpenClaim := { program := "ytjiagjonlcadiaa", sum := "affda6e092850a2294c560c455a5dc9eea8eb880c5d325d81beb3c8fe0475ffe", func := "cachet/cachetlaw05.SignBack", spec := "signBack", inPlace := ["math/bits.Sub64", "math/bits.Add64"], unfollowed := true, recurses := true, apart := false, narrowed := true }
def SignBackUptoSaid : Prop := signBackUptoRow.holds Try.pinned (OpenSpec.upto signBackSpec)

/-- 'cachetlaw05.SignLeast', WHERE WHAT IT READS IS OF BULK AT MOST 1048576: true; the input reads as it did. -/
def signLeastUptoRow : OpenClaim := { program := "ytjiagjonlcadiaa", sum := "affda6e092850a2294c560c455a5dc9eea8eb880c5d325d81beb3c8fe0475ffe", func := "cachet/cachetlaw05.SignLeast", spec := "signLeast", inPlace := ["math/bits.Sub64", "math/bits.Add64"], unfollowed := true, recurses := true, apart := false, narrowed := true }
def SignLeastUptoSaid : Prop := signLeastUptoRow.holds Try.pinned (OpenSpec.upto signLeastSpec)

/-- 'cachetlaw05.SignOther', WHERE WHAT IT READS IS OF BULK AT MOST 1048576: true; the input reads as it did. -/
def signOtherUptoRow : OpenClaim := { program := "ytjiagjonlcadiaa", sum := "affda6e092850a2294c560c455a5dc9eea8eb880c5d325d81beb3c8fe0475ffe", func := "cachet/cachetlaw05.SignOther", spec := "signOther", inPlace := ["math/bits.Sub64", "math/bits.Add64"], unfollowed := true, recurses := true, apart := false, narrowed := true }
def SignOtherUptoSaid : Prop := signOtherUptoRow.holds Try.pinned (OpenSpec.upto signOtherSpec)

end Rows
end Go.Proofs.Ytjiagjonlcadiaa
