/- For every row of bytes and every number the law AuditNone returns true, and the bytes read as they did; no condition. -/
import Derived.Laws.ShiftsVarLaws
import Derived.Test.YtbgefoamhdgnaaaGreatDoorTie
import Derived.Test.YtbgefoamhdgnaaaGreatDoorCards
import Derived.LaidMore
import Derived.Lay
import Derived.SevenTiedAt
import Derived.Stop.Joined
import Derived.Test.YtbgefoamhdgnaaaGreatDoorGa7
set_option maxRecDepth 100000
set_option maxHeartbeats 16000000
set_option linter.unusedVariables false
set_option linter.unusedSimpArgs false
namespace Go.Proofs.YtbgefoamhdgnaaaGreatDoor
section
open Go.ChangeShapes Go.WideShapes Go.ChangeAt Go.RowKit Go.Sx
theorem auditNone_j0 : (Rows.auditNoneRow.inPlace == Tryz.prog.inPlace 7) = true := by kernel_rfl
theorem auditNone_j1 : (Rows.auditNoneRow.unfollowed == Tryz.prog.unfollowed 7) = true := by kernel_rfl
theorem auditNone_j2 : (Rows.auditNoneRow.recurses == Tryz.prog.recurses 7) = true := by kernel_rfl
theorem auditNone_j3 : (Rows.auditNoneRow.named == Tryz.prog.varsNamed 7) = true := by kernel_rfl
theorem auditNone_j4 : (Rows.auditNoneRow.lifted == Tryz.prog.liftsFinal) = true := by kernel_rfl
theorem auditNone_j5 : (Tryz.prog.make == some Rows.auditNoneRow.make) = true := by kernel_rfl
theorem auditNone_closed : joinedFacts Tryz.prog 7 Tryz.f7 Rows.auditNoneSpec Rows.auditNoneRow = true := by
 unfold joinedFacts
 rw [jLaid, jMaps, jStops, jMay, auditNone_j0, auditNone_j1, auditNone_j2, auditNone_j3, auditNone_j4, auditNone_j5]
 kernel_rfl
theorem auditNone_lifted (os : Os) (started : os.Started) (H : Type) (enc : TypeId × Value → H) :
 ReturnsInHanded {} Tryz.checked os 7 .any (fun w args => (Rows.auditNoneSpec.pre enc Tryz.prog Tryz.f7 Rows.auditNoneRow.domain false w args ∧ laidMetH Tryz.prog Rows.auditNoneRow.laid w) ∧ sizedMet enc Tryz.prog Tryz.f7 (OpenSpec.ofChange Rows.auditNoneSpec) false w args) (Rows.auditNoneSpec.post enc Tryz.prog Tryz.f7 false true false false) := by
 refine returnsInHanded_of_change_and (C := Tryz.checked) (X := fun w _ => laidMetH Tryz.prog Rows.auditNoneRow.laid w) (fun _ _ _ hh h => h.of_heap hh) own started (by kernel_rfl) Tryz.func7
  (ChangeSpec.witness_shaped (enc := enc) (C := Tryz.checked) (os := os) (X := fun w _ => laidMetH Tryz.prog Rows.auditNoneRow.laid w) false (World.laidAll Tryz.prog os Rows.auditNoneRow.laid) #[.slice none 0 0, .int .i64 0] 8 (World.laidAll_os _ _ _)
   (World.shaped_of_ZipB (by kernel_rfl) (by kernel_rfl)) (by kernel_rfl) (by kernel_rfl) (by kernel_rfl)
   (by rw [MakeChecks.laidMetH_plain _ _ _ (by kernel_rfl)]; exact laidMet_laidAll _ (by kernel_rfl) (by kernel_rfl))) ?_
 intro W base args ds gs before hval0 hW hcnd hsz hL _
 have hval : ∀ (j : Nat) t v, Tryz.f7.params[j]? = some t → args[j]? = some v → Value.okWide Tryz.prog W .any base t v := hval0
 have hW' := hW
 obtain ⟨p, q, hA0, hV, rfl, hfz, hnd⟩ := hW
 have hA : DataW.TrodAll enc Tryz.prog W 0 (fun _ => true) true Tryz.f7.params.toList args.toList ds p := hA0
 rw [Tryz.params7] at hA hval
 obtain ⟨v0, vs0, d0, ds0, p0, q0, hargs, rfl, rfl, h0, r0⟩ := trodAll_cons hA
 obtain ⟨v1, vs1, d1, ds1, p1, q1, rfl, rfl, rfl, h1, r1⟩ := trodAll_cons r0
 obtain ⟨rfl, rfl, rfl⟩ := trodAll_nil r1
 obtain rfl : args = #[v0, v1] := by cases args; simp_all
 obtain ⟨rfl, rfl⟩ := trodVars_none hV
 have k0 := h0
 have lt0 : ∀ x ∈ p0, x.block < W.heap.size := by obtain ⟨m, hm⟩ := k0; exact DataW.trod_lt m _ _ _ hm
 obtain ⟨a0, l0, c0, rfl, hc0, hm0, sa0, hb0⟩ := open_rd (hval 0 48 v0 rfl rfl) h0
 obtain ⟨a1, rfl, rfl, rfl, w1⟩ := open_int Tryz.underlying3 (hval 1 3 v1 rfl rfl) h1
 clear hA0 hval0
 refine (law_none a0 _ c0 a1 W).mono fun e W' ⟨he, bel⟩ => ?_
 subst he
 exact ⟨_, rfl, _, _, _, [], _, [], hW', trodAll_mk1 (shut_bool Tryz.underlying4 _), (trodAll_cons_mk (Below.trod laidOut (by kernel_rfl) (of_decide_eq_true (by kernel_rfl)) k0 bel lt0) (trodAll_cons_mk (shut_int Tryz.underlying3 w1) trodAll_mk0)), rfl, bel.frame _, fun h => by cases h⟩
theorem auditNone_said : Rows.AuditNoneSaid :=
 OpenClaim.holds_of_wide 7 Tryz.f7 rfl rfl rfl rfl rfl rfl rfl ⟨rfl, rfl, rfl, rfl, rfl⟩ rfl rfl rfl rfl rfl (by kernel_rfl) Tryz.func7 auditNone_closed
  (of_decide_eq_true (by kernel_rfl)) (by unfold Func.isWrapper; first | (rw [if_pos (by decide +kernel)]; kernel_rfl) | (rw [if_neg (by decide +kernel)]; exact ⟨rfl, rfl⟩))
  (fun os started H enc _ => auditNone_lifted os started H enc)
theorem auditNone_proved : Rows.AuditNoneCardSaid :=
 Claim7.holds_tied_plain_at .later [] [.data, .data, .data, .data, .pinned] true (true, "38afd91f725508eaffa4406eb5f1854cac6237fa10b1d624aad217799a60a8b0") true auditNone_said (fun _ h => by cases h) (by kernel_rfl) (fun _ h => by cases h) auditNone_row_tie rfl ⟨rfl, rfl⟩ (by kernel_rfl) rfl
  (fun f fn hf hfn => by
   obtain rfl : f = 7 := Option.some.inj ((show Tryz.prog.funcNamed "cachet/cachetlaw23.AuditNone" = some 7 by kernel_rfl).symm.trans hf) |>.symm
   obtain rfl : fn = Tryz.f7 := (Option.some.inj (Tryz.func7.symm.trans hfn)).symm
   exact ⟨by kernel_rfl, fun j t ht => by
    rw [Tryz.params7] at ht
    have hm : t ∈ [48, 3] := by simpa using Array.mem_of_getElem? ht
    have hall : ([48, 3].all fun u => !Tryz.prog.wantsStandIn u) = true := by kernel_rfl
    exact (show Tryz.prog.wantsStandIn t = false by simpa using List.all_eq_true.1 hall t hm)⟩)
  (by kernel_rfl)
#print axioms auditNone_proved
end
end Go.Proofs.YtbgefoamhdgnaaaGreatDoor
