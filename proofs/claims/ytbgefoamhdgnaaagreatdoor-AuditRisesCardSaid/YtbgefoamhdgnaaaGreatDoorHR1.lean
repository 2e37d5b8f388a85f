/- the size and the time of an auditor's last head never fall -/
import Derived.Laws.ShiftsVarLaws
import Derived.Test.YtbgefoamhdgnaaaGreatDoorTie
import Derived.Test.YtbgefoamhdgnaaaGreatDoorCards
import Derived.LaidMore
import Derived.Lay
import Derived.SevenTiedAt
import Derived.Stop.Joined
import Derived.Test.YtbgefoamhdgnaaaGreatDoorHa6
set_option maxRecDepth 100000
set_option maxHeartbeats 16000000
set_option linter.unusedVariables false
set_option linter.unusedSimpArgs false
namespace Go.Proofs.YtbgefoamhdgnaaaGreatDoor
section
open Go.ChangeShapes Go.WideShapes Go.ChangeAt Go.RowKit Go.Sx
theorem pow_ty : (Tryz.prog.globalNamed "internal/strconv.uint64pow10").bind (fun g => (Tryz.prog.globals[g]?).map (·.type)) = some 358 := by kernel_rfl
theorem pow_eq : (Rows.laid_internal_strconv_uint64pow10 : DataW Unit) = Lib.tabData .u64 Lib.pow10Tab := by kernel_rfl
theorem laid_of {W : World} (h : laidMetH Tryz.prog [("math/bits.deBruijn32tab", Rows.laid_math_bits_deBruijn32tab), ("math/bits.deBruijn64tab", Rows.laid_math_bits_deBruijn64tab), ("internal/strconv.uint64pow10", Rows.laid_internal_strconv_uint64pow10), ("unicode/utf8.acceptRanges", Rows.laid_unicode_utf8_acceptRanges), ("unicode/utf8.first", Rows.laid_unicode_utf8_first)] W) : Laid W := by
 rw [MakeChecks.laidMetH_plain _ _ _ (by kernel_rfl)] at h
 obtain ⟨ps, ⟨g1, t1, cs1, f1, p1, q1, hg1, ht1, hv1, hd1, ⟨g2, t2, cs2, f2, p2, q2, hg2, ht2, hv2, hd2, ⟨g3, t3, cs3, f3, p3, q3, hg3, ht3, hv3, hd3, _, _⟩, _⟩, _⟩, _, _⟩ := h
 have h0 := pow_ty
 rw [hg3] at h0
 obtain rfl := Option.some.inj (h0.symm.trans ht3)
 rw [pow_eq] at hd3
 unfold Laid Lib.TabIs
 rw [hv3, ← Lib.cells_of_tab Tryz.underlying358 Tryz.underlying131 (by kernel_rfl) (by kernel_rfl) hd3]
theorem auditRises_j0 : (Rows.auditRisesRow.inPlace == Tryz.prog.inPlace 4) = true := by kernel_rfl
theorem auditRises_j1 : (Rows.auditRisesRow.unfollowed == Tryz.prog.unfollowed 4) = true := by kernel_rfl
theorem auditRises_j2 : (Rows.auditRisesRow.recurses == Tryz.prog.recurses 4) = true := by kernel_rfl
theorem auditRises_j3 : (Rows.auditRisesRow.named == Tryz.prog.varsNamed 4) = true := by kernel_rfl
theorem auditRises_j4 : (Rows.auditRisesRow.lifted == Tryz.prog.liftsFinal) = true := by kernel_rfl
theorem auditRises_j5 : (Tryz.prog.make == some Rows.auditRisesRow.make) = true := by kernel_rfl
theorem auditRises_closed : joinedFacts Tryz.prog 4 Tryz.f4 Rows.auditRisesSpec Rows.auditRisesRow = true := by
 unfold joinedFacts
 rw [jLaid, jMaps, jStops, jMay, auditRises_j0, auditRises_j1, auditRises_j2, auditRises_j3, auditRises_j4, auditRises_j5]
 kernel_rfl
theorem auditRises_lifted (os : Os) (started : os.Started) (H : Type) (enc : TypeId × Value → H) :
 ReturnsInHanded {} Tryz.checked os 4 .any (fun w args => (Rows.auditRisesSpec.pre enc Tryz.prog Tryz.f4 Rows.auditRisesRow.domain false w args ∧ laidMetH Tryz.prog Rows.auditRisesRow.laid w) ∧ sizedMet enc Tryz.prog Tryz.f4 (OpenSpec.ofChange Rows.auditRisesSpec) false w args) (Rows.auditRisesSpec.post enc Tryz.prog Tryz.f4 false true false false) := by
 refine returnsInHanded_of_change_and (C := Tryz.checked) (X := fun w _ => laidMetH Tryz.prog Rows.auditRisesRow.laid w) (fun _ _ _ hh h => h.of_heap hh) own started (by kernel_rfl) Tryz.func4
  (ChangeSpec.witness_shaped (enc := enc) (C := Tryz.checked) (os := os) (X := fun w _ => laidMetH Tryz.prog Rows.auditRisesRow.laid w) false (World.laidAll Tryz.prog os Rows.auditRisesRow.laid) #[.slice none 0 0] 8 (World.laidAll_os _ _ _)
   (World.shaped_of_ZipB (by kernel_rfl) (by kernel_rfl)) (by kernel_rfl) (by kernel_rfl) (by kernel_rfl)
   (by rw [MakeChecks.laidMetH_plain _ _ _ (by kernel_rfl)]; exact laidMet_laidAll _ (by kernel_rfl) (by kernel_rfl))) ?_
 intro W base args ds gs before hval0 hW hcnd hsz hL _
 have hval : ∀ (j : Nat) t v, Tryz.f4.params[j]? = some t → args[j]? = some v → Value.okWide Tryz.prog W .any base t v := hval0
 have hW' := hW
 obtain ⟨p, q, hA0, hV, rfl, hfz, hnd⟩ := hW
 have hA : DataW.TrodAll enc Tryz.prog W 0 (fun _ => true) true Tryz.f4.params.toList args.toList ds p := hA0
 rw [Tryz.params4] at hA hval
 obtain ⟨v0, vs0, d0, ds0, p0, q0, hargs, rfl, rfl, h0, r0⟩ := trodAll_cons hA
 obtain ⟨rfl, rfl, rfl⟩ := trodAll_nil r0
 obtain rfl : args = #[v0] := by cases args; simp_all
 obtain ⟨rfl, rfl⟩ := trodVars_none hV
 have k0 := h0
 have lt0 : ∀ x ∈ p0, x.block < W.heap.size := by obtain ⟨m, hm⟩ := k0; exact DataW.trod_lt m _ _ _ hm
 obtain ⟨m0, O0, hS0⟩ := qdw (hval 0 27 v0 rfl rfl) h0
 clear hA0 hval0
 refine (law_rises _ m0 O0 W (laid_of hL) hS0).mono fun e W' ⟨he, bel⟩ => ?_
 subst he
 exact ⟨_, rfl, _, _, _, [], _, [], hW', trodAll_mk1 (shut_bool Tryz.underlying4 _), (trodAll_cons_mk (Below.trod laidOut (by kernel_rfl) (of_decide_eq_true (by kernel_rfl)) k0 bel lt0) trodAll_mk0), rfl, bel.frame _, fun h => by cases h⟩
theorem auditRises_said : Rows.AuditRisesSaid :=
 OpenClaim.holds_of_wide 4 Tryz.f4 rfl rfl rfl rfl rfl rfl rfl ⟨rfl, rfl, rfl, rfl, rfl⟩ rfl rfl rfl rfl rfl (by kernel_rfl) Tryz.func4 auditRises_closed
  (of_decide_eq_true (by kernel_rfl)) (by unfold Func.isWrapper; first | (rw [if_pos (by decide +kernel)]; kernel_rfl) | (rw [if_neg (by decide +kernel)]; exact ⟨rfl, rfl⟩))
  (fun os started H enc _ => auditRises_lifted os started H enc)
theorem auditRises_proved : Rows.AuditRisesCardSaid :=
 Claim7.holds_tied_plain_at .later [] [.data, .data, .data, .data, .pinned] true (true, "38afd91f725508eaffa4406eb5f1854cac6237fa10b1d624aad217799a60a8b0") true auditRises_said (fun _ h => by cases h) (by kernel_rfl) (fun _ h => by cases h) auditRises_row_tie rfl ⟨rfl, rfl⟩ (by kernel_rfl) rfl
  (fun f fn hf hfn => by
   obtain rfl : f = 4 := Option.some.inj ((show Tryz.prog.funcNamed "cachet/cachetlaw23.AuditRises" = some 4 by kernel_rfl).symm.trans hf) |>.symm
   obtain rfl : fn = Tryz.f4 := (Option.some.inj (Tryz.func4.symm.trans hfn)).symm
   exact ⟨by kernel_rfl, fun j t ht => by
    rw [Tryz.params4] at ht
    have hm : t ∈ [27] := by simpa using Array.mem_of_getElem? ht
    have hall : ([27].all fun u => !Tryz.prog.wantsStandIn u) = true := by kernel_rfl
    exact (show Tryz.prog.wantsStandIn t = false by simpa using List.all_eq_true.1 hall t hm)⟩)
  (by kernel_rfl)
#print axioms auditRises_proved
end
end Go.Proofs.YtbgefoamhdgnaaaGreatDoor
