/-
  DERIVED. GIVEN WITH THE SEED: THE CARDS: each row of YtbgefoamhdgnaaaGreatDoorRows.lean that lists a variable, with what it lists TIED to the program's text (the seventh form; the later family's looks); each row that meets fmt, with fmt's text TOLD by the authors' own Lean function (tested against real Go, not proved from fmt's source: count such statements apart). THE CARD IS WHAT COUNTS. Prove the row's statement (the work); the ties are given (YtbgefoamhdgnaaaGreatDoorTie.lean); close each card by the builder's one call (the guide's Derived/Test/ToyasCard.lean, 'card_holds'). Laid BY PROGRAM, IN A SANDBOX (cutbox-door.mjs). By AI agents, Wed Nov 11 2026. No macro, syntax, notation, axiom, sorry.
-/
import Derived.Test.YtbgefoamhdgnaaaGreatDoorRows
import GoSem.ClaimSeven
namespace Go.Proofs.YtbgefoamhdgnaaaGreatDoor
namespace Rows

/-- THE TIED CARD OF 'cachetlaw23.AuditAlone'. -/
def auditAloneCard : Claim7 := { stood := { row := auditAloneRow, standIns := [], harness := (true, "38afd91f725508eaffa4406eb5f1854cac6237fa10b1d624aad217799a60a8b0"), looks := true }, kinds := [], alts := [], laidByText := true, laidKinds := [.data, .data, .data, .data, .pinned], laidTests := true, laidLooks := .later }
def AuditAloneCardSaid : Prop := Claim7.holds Tryz.pinned (.plain (OpenSpec.ofChange auditAloneSpec)) auditAloneCard

/-- THE TIED CARD OF 'cachetlaw23.AuditRises'. -/
def auditRisesCard : Claim7 := { stood := { row := auditRisesRow, standIns := [], harness := (true, "38afd91f725508eaffa4406eb5f1854cac6237fa10b1d624aad217799a60a8b0"), looks := true }, kinds := [], alts := [], laidByText := true, laidKinds := [.data, .data, .data, .data, .pinned], laidTests := true, laidLooks := .later }
def AuditRisesCardSaid : Prop := Claim7.holds Tryz.pinned (.plain (OpenSpec.ofChange auditRisesSpec)) auditRisesCard

/-- THE TIED CARD OF 'cachetlaw23.AuditFollows'. -/
def auditFollowsCard : Claim7 := { stood := { row := auditFollowsRow, standIns := [], harness := (true, "38afd91f725508eaffa4406eb5f1854cac6237fa10b1d624aad217799a60a8b0"), looks := true }, kinds := [], alts := [], laidByText := true, laidKinds := [.data, .data, .data, .data, .pinned], laidTests := true, laidLooks := .later }
def AuditFollowsCardSaid : Prop := Claim7.holds Tryz.pinned (.plain (OpenSpec.ofChange auditFollowsSpec)) auditFollowsCard

/-- THE TIED CARD OF 'cachetlaw23.AuditPlays'. -/
def auditPlaysCard : Claim7 := { stood := { row := auditPlaysRow, standIns := [], harness := (true, "38afd91f725508eaffa4406eb5f1854cac6237fa10b1d624aad217799a60a8b0"), looks := true }, kinds := [], alts := [], laidByText := true, laidKinds := [.data, .data, .data, .data, .pinned], laidTests := true, laidLooks := .later }
def AuditPlaysCardSaid : Prop := Claim7.holds Tryz.pinned (.plain (OpenSpec.ofChange auditPlaysSpec)) auditPlaysCard

/-- THE TIED CARD OF 'cachetlaw23.AuditNone'. -/
def auditNoneCard : Claim7 := { stood := { row := auditNoneRow, standIns := [], harness := (true, "38afd91f725508eaffa4406eb5f1854cac6237fa10b1d624aad217799a60a8b0"), looks := true }, kinds := [], alts := [], laidByText := true, laidKinds := [.data, .data, .data, .data, .pinned], laidTests := true, laidLooks := .later }
def AuditNoneCardSaid : Prop := Claim7.holds Tryz.pinned (.plain (OpenSpec.ofChange auditNoneSpec)) auditNoneCard

/-- THE SECOND FORM's CARD OF 'cachetlaw23.AuditAlone'. -/
def auditAloneUptoCard : Claim7 := { stood := { row := auditAloneUptoRow, standIns := [], harness := (true, "38afd91f725508eaffa4406eb5f1854cac6237fa10b1d624aad217799a60a8b0"), looks := true }, kinds := [], alts := [], laidByText := true, laidKinds := [.data, .data, .data, .data, .pinned], laidTests := true, laidLooks := .later }
def AuditAloneUptoCardSaid : Prop := Claim7.holds Tryz.pinned (.plain (OpenSpec.upto auditAloneSpec)) auditAloneUptoCard

/-- THE SECOND FORM's CARD OF 'cachetlaw23.AuditRises'. -/
def auditRisesUptoCard : Claim7 := { stood := { row := auditRisesUptoRow, standIns := [], harness := (true, "38afd91f725508eaffa4406eb5f1854cac6237fa10b1d624aad217799a60a8b0"), looks := true }, kinds := [], alts := [], laidByText := true, laidKinds := [.data, .data, .data, .data, .pinned], laidTests := true, laidLooks := .later }
def AuditRisesUptoCardSaid : Prop := Claim7.holds Tryz.pinned (.plain (OpenSpec.upto auditRisesSpec)) auditRisesUptoCard

/-- THE SECOND FORM's CARD OF 'cachetlaw23.AuditFollows'. -/
def auditFollowsUptoCard : Claim7 := { stood := { row := auditFollowsUptoRow, standIns := [], harness := (true, "38afd91f725508eaffa4406eb5f1854cac6237fa10b1d624aad217799a60a8b0"), looks := true }, kinds := [], alts := [], laidByText := true, laidKinds := [.data, .data, .data, .data, .pinned], laidTests := true, laidLooks := .later }
def AuditFollowsUptoCardSaid : Prop := Claim7.holds Tryz.pinned (.plain (OpenSpec.upto auditFollowsSpec)) auditFollowsUptoCard

/-- THE SECOND FORM's CARD OF 'cachetlaw23.AuditPlays'. -/
def auditPlaysUptoCard : Claim7 := { stood := { row := auditPlaysUptoRow, standIns := [], harness := (true, "38afd91f725508eaffa4406eb5f1854cac6237fa10b1d624aad217799a60a8b0"), looks := true }, kinds := [], alts := [], laidByText := true, laidKinds := [.data, .data, .data, .data, .pinned], laidTests := true, laidLooks := .later }
def AuditPlaysUptoCardSaid : Prop := Claim7.holds Tryz.pinned (.plain (OpenSpec.upto auditPlaysSpec)) auditPlaysUptoCard

/-- THE SECOND FORM's CARD OF 'cachetlaw23.AuditNone'. -/
def auditNoneUptoCard : Claim7 := { stood := { row := auditNoneUptoRow, standIns := [], harness := (true, "38afd91f725508eaffa4406eb5f1854cac6237fa10b1d624aad217799a60a8b0"), looks := true }, kinds := [], alts := [], laidByText := true, laidKinds := [.data, .data, .data, .data, .pinned], laidTests := true, laidLooks := .later }
def AuditNoneUptoCardSaid : Prop := Claim7.holds Tryz.pinned (.plain (OpenSpec.upto auditNoneSpec)) auditNoneUptoCard
end Rows
end Go.Proofs.YtbgefoamhdgnaaaGreatDoor
