/- an auditor takes only what the last head begins, or two unlike texts have one digest -/
import Derived.Laws.ShiftsVarLaws
import Derived.Test.YtbgefoamhdgnaaaGreatDoorTie
import Derived.Test.YtbgefoamhdgnaaaGreatDoorCards
import Derived.LaidMore
import Derived.Lay
import Derived.SevenTiedAt
import Derived.Stop.Joined
import Derived.Test.YtbgefoamhdgnaaaGreatDoorHb6
set_option maxRecDepth 100000
set_option maxHeartbeats 16000000
set_option linter.unusedVariables false
set_option linter.unusedSimpArgs false
namespace Go.Proofs.YtbgefoamhdgnaaaGreatDoor
section
open Go.ChangeShapes Go.WideShapes Go.ChangeAt Go.RowKit Go.Sx
theorem pow_ty : (Tryz.prog.globalNamed "internal/strconv.uint64pow10").bind (fun g => (Tryz.prog.globals[g]?).map (·.type)) = some 358 := by kernel_rfl
theorem pow_eq : (Rows.laid_internal_strconv_uint64pow10 : DataW Unit) = Lib.tabData .u64 Lib.pow10Tab := by kernel_rfl
theorem laid_of {W : World} (h : laidMetH Tryz.prog [("math/bits.deBruijn32tab", Rows.laid_math_bits_deBruijn32tab), ("math/bits.deBruijn64tab", Rows.laid_math_bits_deBruijn64tab), ("internal/strconv.uint64pow10", Rows.laid_internal_strconv_uint64pow10), ("unicode/utf8.acceptRanges", Rows.laid_unicode_utf8_acceptRanges), ("unicode/utf8.first", Rows.laid_unicode_utf8_first)] W) : Laid W := by
 rw [MakeChecks.laidMetH_plain _ _ _ (by kernel_rfl)] at h
 obtain ⟨ps, ⟨g1, t1, cs1, f1, p1, q1, hg1, ht1, hv1, hd1, ⟨g2, t2, cs2, f2, p2, q2, hg2, ht2, hv2, hd2, ⟨g3, t3, cs3, f3, p3, q3, hg3, ht3, hv3, hd3, _, _⟩, _⟩, _⟩, _, _⟩ := h
 have h0 := pow_ty
 rw [hg3] at h0
 obtain rfl := Option.some.inj (h0.symm.trans ht3)
 rw [pow_eq] at hd3
 unfold Laid Lib.TabIs
 rw [hv3, ← Lib.cells_of_tab Tryz.underlying358 Tryz.underlying131 (by kernel_rfl) (by kernel_rfl) hd3]
abbrev TRows : Nat := 24
theorem cellsRows : Tryz.prog.cellsOf TRows = 4 := by kernel_rfl
section
variable {H : Type} {enc : TypeId × Value → H} {w : World} {base : Nat} {spare : Nat → Bool} {held : Bool}
theorem okWide_agg {r : Reach} {b0 t : Nat} {v : Value} (ht : (∃ n e, Tryz.prog.underlying t = some (.array n e)) ∨ ∃ fs, Tryz.prog.underlying t = some (.struct fs)) (h : Value.okWide Tryz.prog w r b0 t v) : ∃ cs, v = .agg cs ∧ cs.size = Tryz.prog.cellsOf t := by
 rcases ht with ⟨n, e, ht⟩ | ⟨fs, ht⟩
 all_goals
  simp only [Value.okWide, ht] at h
  obtain ⟨cs, h1, h2, _⟩ := h
  exact ⟨cs, h1, h2⟩
theorem open_rows {r : Reach} {b0 : Nat} {v : Value} {d : DataW H} {p : List MemPlace} (hv : Value.okWide Tryz.prog w r b0 TRows v) (h : DataW.Trod enc Tryz.prog w base spare held TRows v d p) :
 ∃ vl vo vp t ls os ps, v = .agg (rowsC vl vo vp t) ∧ RdS w vl ls ∧ RdS w vo os ∧ RdS w vp ps := by
 obtain ⟨cs, rfl, hsz⟩ := okWide_agg (.inr ⟨_, Tryz.underlying24⟩) hv
 rw [cellsRows] at hsz
 obtain ⟨fuel, hf⟩ := h
 obtain ⟨xs, k, _, _, _, hxl, hfs⟩ := DataW.trod_struct Tryz.underlying24 hf
 match xs, hxl with
 | [y0, y1, y2, y3], _ =>
  have g0 : DataW.trod enc Tryz.prog w base spare held k 22 ((cs.toList.drop 0).take (Tryz.prog.cellsOf 22)) = some y0 := hfs 0 _ rfl
  have g1 : DataW.trod enc Tryz.prog w base spare held k 22 ((cs.toList.drop 1).take (Tryz.prog.cellsOf 22)) = some y1 := hfs 1 _ rfl
  have g2 : DataW.trod enc Tryz.prog w base spare held k 22 ((cs.toList.drop 2).take (Tryz.prog.cellsOf 22)) = some y2 := hfs 2 _ rfl
  have g3 : DataW.trod enc Tryz.prog w base spare held k 3 ((cs.toList.drop 3).take (Tryz.prog.cellsOf 3)) = some y3 := hfs 3 _ rfl
  rw [cellsSs] at g0 g1 g2
  rw [cellsI] at g3
  obtain ⟨a0, c0, p0, e0, r0⟩ := qcc g0
  obtain ⟨a1, c1, p1, e1, r1⟩ := qcc g1
  obtain ⟨a2, c2, p2, e2, r2⟩ := qcc g2
  obtain ⟨n3, e3, _, _⟩ := DataW.trod_int Tryz.underlying3 g3
  refine ⟨_, _, _, n3, p0, p1, p2, ?_, r0, r1, r2⟩
  have h0 := qcY cs.toList 0 1
  have hend : cs.toList.drop (0 + 1 + 1 + 1 + 1) = [] := List.drop_of_length_le (by simp [hsz])
  rw [e0, qcY cs.toList (0 + 1) 1, e1, qcY cs.toList (0 + 1 + 1) 1, e2, qcY cs.toList (0 + 1 + 1 + 1) 1, e3, hend, List.drop_zero] at h0
  congr 1
  apply Array.ext'
  rw [h0]; rfl
end
theorem auditAlone_j0 : (Rows.auditAloneRow.inPlace == Tryz.prog.inPlace 3) = true := by kernel_rfl
theorem auditAlone_j1 : (Rows.auditAloneRow.unfollowed == Tryz.prog.unfollowed 3) = true := by kernel_rfl
theorem auditAlone_j2 : (Rows.auditAloneRow.recurses == Tryz.prog.recurses 3) = true := by kernel_rfl
theorem auditAlone_j3 : (Rows.auditAloneRow.named == Tryz.prog.varsNamed 3) = true := by kernel_rfl
theorem auditAlone_j4 : (Rows.auditAloneRow.lifted == Tryz.prog.liftsFinal) = true := by kernel_rfl
theorem auditAlone_j5 : (Tryz.prog.make == some Rows.auditAloneRow.make) = true := by kernel_rfl
theorem auditAlone_closed : joinedFacts Tryz.prog 3 Tryz.f3 Rows.auditAloneSpec Rows.auditAloneRow = true := by
 unfold joinedFacts
 rw [jLaid, jMaps, jStops, jMay, auditAlone_j0, auditAlone_j1, auditAlone_j2, auditAlone_j3, auditAlone_j4, auditAlone_j5]
 kernel_rfl
theorem auditAlone_lifted (os : Os) (started : os.Started) (H : Type) (enc : TypeId × Value → H) :
 ReturnsInHanded {} Tryz.checked os 3 .any (fun w args => (Rows.auditAloneSpec.pre enc Tryz.prog Tryz.f3 Rows.auditAloneRow.domain false w args ∧ laidMetH Tryz.prog Rows.auditAloneRow.laid w) ∧ sizedMet enc Tryz.prog Tryz.f3 (OpenSpec.ofChange Rows.auditAloneSpec) false w args) (Rows.auditAloneSpec.post enc Tryz.prog Tryz.f3 false true false false) := by
 refine returnsInHanded_of_change_and (C := Tryz.checked) (X := fun w _ => laidMetH Tryz.prog Rows.auditAloneRow.laid w) (fun _ _ _ hh h => h.of_heap hh) own started (by kernel_rfl) Tryz.func3
  (ChangeSpec.witness_shaped (enc := enc) (C := Tryz.checked) (os := os) (X := fun w _ => laidMetH Tryz.prog Rows.auditAloneRow.laid w) false (World.laidAll Tryz.prog os Rows.auditAloneRow.laid) #[.agg #[.slice none 0 0, .slice none 0 0, .slice none 0 0, .int .i64 0]] 8 (World.laidAll_os _ _ _)
   (World.shaped_of_ZipB (by kernel_rfl) (by kernel_rfl)) (by kernel_rfl) (by kernel_rfl) (by kernel_rfl)
   (by rw [MakeChecks.laidMetH_plain _ _ _ (by kernel_rfl)]; exact laidMet_laidAll _ (by kernel_rfl) (by kernel_rfl))) ?_
 intro W base args ds gs before hval0 hW hcnd hsz hL _
 have hval : ∀ (j : Nat) t v, Tryz.f3.params[j]? = some t → args[j]? = some v → Value.okWide Tryz.prog W .any base t v := hval0
 have hW' := hW
 obtain ⟨p, q, hA0, hV, rfl, hfz, hnd⟩ := hW
 have hA : DataW.TrodAll enc Tryz.prog W 0 (fun _ => true) true Tryz.f3.params.toList args.toList ds p := hA0
 rw [Tryz.params3] at hA hval
 obtain ⟨v0, vs0, d0, ds0, p0, q0, hargs, rfl, rfl, h0, r0⟩ := trodAll_cons hA
 obtain ⟨rfl, rfl, rfl⟩ := trodAll_nil r0
 obtain rfl : args = #[v0] := by cases args; simp_all
 obtain ⟨rfl, rfl⟩ := trodVars_none hV
 have k0 := h0
 have lt0 : ∀ x ∈ p0, x.block < W.heap.size := by obtain ⟨m, hm⟩ := k0; exact DataW.trod_lt m _ _ _ hm
 obtain ⟨vl0, vo0, vp0, t0, ls0, os0, ps0, rfl, hl0, ho0, hp0⟩ := open_rows (hval 0 24 v0 rfl rfl) h0
 clear hA0 hval0
 refine (law_alone vl0 vo0 vp0 ls0 os0 ps0 t0 W (laid_of hL) hl0 ho0 hp0).mono fun e W' ⟨he, bel⟩ => ?_
 subst he
 exact ⟨_, rfl, _, _, _, [], _, [], hW', trodAll_mk1 (shut_bool Tryz.underlying4 _), (trodAll_cons_mk (Below.trod laidOut (by kernel_rfl) (of_decide_eq_true (by kernel_rfl)) k0 bel lt0) trodAll_mk0), rfl, bel.frame _, fun h => by cases h⟩
theorem auditAlone_said : Rows.AuditAloneSaid :=
 OpenClaim.holds_of_wide 3 Tryz.f3 rfl rfl rfl rfl rfl rfl rfl ⟨rfl, rfl, rfl, rfl, rfl⟩ rfl rfl rfl rfl rfl (by kernel_rfl) Tryz.func3 auditAlone_closed
  (of_decide_eq_true (by kernel_rfl)) (by unfold Func.isWrapper; first | (rw [if_pos (by decide +kernel)]; kernel_rfl) | (rw [if_neg (by decide +kernel)]; exact ⟨rfl, rfl⟩))
  (fun os started H enc _ => auditAlone_lifted os started H enc)
theorem auditAlone_proved : Rows.AuditAloneCardSaid :=
 Claim7.holds_tied_plain_at .later [] [.data, .data, .data, .data, .pinned] true (true, "38afd91f725508eaffa4406eb5f1854cac6237fa10b1d624aad217799a60a8b0") true auditAlone_said (fun _ h => by cases h) (by kernel_rfl) (fun _ h => by cases h) auditAlone_row_tie rfl ⟨rfl, rfl⟩ (by kernel_rfl) rfl
  (fun f fn hf hfn => by
   obtain rfl : f = 3 := Option.some.inj ((show Tryz.prog.funcNamed "cachet/cachetlaw23.AuditAlone" = some 3 by kernel_rfl).symm.trans hf) |>.symm
   obtain rfl : fn = Tryz.f3 := (Option.some.inj (Tryz.func3.symm.trans hfn)).symm
   exact ⟨by kernel_rfl, fun j t ht => by
    rw [Tryz.params3] at ht
    have hm : t ∈ [24] := by simpa using Array.mem_of_getElem? ht
    have hall : ([24].all fun u => !Tryz.prog.wantsStandIn u) = true := by kernel_rfl
    exact (show Tryz.prog.wantsStandIn t = false by simpa using List.all_eq_true.1 hall t hm)⟩)
  (by kernel_rfl)
#print axioms auditAlone_proved
end
end Go.Proofs.YtbgefoamhdgnaaaGreatDoor
