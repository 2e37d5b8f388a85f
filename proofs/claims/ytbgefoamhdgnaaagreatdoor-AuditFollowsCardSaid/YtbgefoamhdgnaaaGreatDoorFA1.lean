/- For all texts, steps and numbers the law AuditFollows returns true, and they read as they did; no condition. -/
import Derived.Laws.ShiftsVarLaws
import Derived.Test.YtbgefoamhdgnaaaGreatDoorTie
import Derived.Test.YtbgefoamhdgnaaaGreatDoorCards
import Derived.LaidMore
import Derived.Lay
import Derived.SevenTiedAt
import Derived.Stop.Joined
import Derived.Test.YtbgefoamhdgnaaaGreatDoorFb7
set_option maxRecDepth 100000
set_option maxHeartbeats 16000000
set_option linter.unusedVariables false
set_option linter.unusedSimpArgs false
namespace Go.Proofs.YtbgefoamhdgnaaaGreatDoor
section
open Go.ChangeShapes Go.WideShapes Go.ChangeAt Go.RowKit Go.Sx
theorem pow_ty : (Tryz.prog.globalNamed "internal/strconv.uint64pow10").bind (fun g => (Tryz.prog.globals[g]?).map (·.type)) = some 358 := by kernel_rfl
theorem pow_eq : (Rows.laid_internal_strconv_uint64pow10 : DataW Unit) = Lib.tabData .u64 Lib.pow10Tab := by kernel_rfl
theorem laid_of {W : World} (h : laidMetH Tryz.prog [("math/bits.deBruijn32tab", Rows.laid_math_bits_deBruijn32tab), ("math/bits.deBruijn64tab", Rows.laid_math_bits_deBruijn64tab), ("internal/strconv.uint64pow10", Rows.laid_internal_strconv_uint64pow10), ("unicode/utf8.acceptRanges", Rows.laid_unicode_utf8_acceptRanges), ("unicode/utf8.first", Rows.laid_unicode_utf8_first)] W) : Laid W := by
 rw [MakeChecks.laidMetH_plain _ _ _ (by kernel_rfl)] at h
 obtain ⟨ps, ⟨g1, t1, cs1, f1, p1, q1, hg1, ht1, hv1, hd1, ⟨g2, t2, cs2, f2, p2, q2, hg2, ht2, hv2, hd2, ⟨g3, t3, cs3, f3, p3, q3, hg3, ht3, hv3, hd3, _, _⟩, _⟩, _⟩, _, _⟩ := h
 have h0 := pow_ty
 rw [hg3] at h0
 obtain rfl := Option.some.inj (h0.symm.trans ht3)
 rw [pow_eq] at hd3
 unfold Laid Lib.TabIs
 rw [hv3, ← Lib.cells_of_tab Tryz.underlying358 Tryz.underlying131 (by kernel_rfl) (by kernel_rfl) hd3]
section
variable {H : Type} {enc : TypeId × Value → H} {w : World} {base : Nat} {spare : Nat → Bool} {held : Bool}
theorem open_rdc {fuel : Nat} {cs : List Value} {x : DataW H × List MemPlace} (h : DataW.trod enc Tryz.prog w base spare held fuel 48 cs = some x) : ∃ v bs, cs = [v] ∧ bs.length ≤ maxLen ∧ Rd w v (Lib.byteCells bs) := by
 rcases open_ints Tryz.underlying48 Tryz.underlying5 cellsU8 h with ⟨hcs, hx⟩ | ⟨a, len, cap, zs, hcs, _, hl, hm, hz, hx, hcell, hwz⟩
 · exact ⟨_, [], hcs, Nat.zero_le _, none, 0, rfl, fun h => absurd rfl h⟩
 · have hlz : len ≤ zs.length := by rw [hz]; split <;> omega
   obtain ⟨bs, hbs, hd⟩ := bytes_of (fun i => zs.getD i 0) len (fun i hi => by
    have hmem : zs.getD i 0 ∈ zs := by
     have : zs.getD i 0 = zs[i]'(by omega) := by simp [List.getD, show i < zs.length by omega]
     rw [this]; exact List.getElem_mem _
    have := bounds_u8 (hwz _ hmem)
    omega)
   refine ⟨_, bs, hcs, by omega, some a, cap, by rw [Lib.byteCells_length, hbs], fun hne => ?_⟩
   have hpos : 0 < len := by
    rcases Nat.eq_zero_or_pos len with h0 | h0
    · rw [h0] at hbs; rw [List.eq_nil_of_length_eq_zero hbs] at hne; exact absurd rfl hne
    · exact h0
   have h0 := hcell 0 (by omega)
   obtain ⟨b, o, sp⟩ := a
   obtain rfl : sp = none := by have := World.cell?_spot h0; simpa [Addr.add] using this
   refine ⟨b, o, rfl, World.block_lt_of_cell? w _ h0, fun j u hu => ?_⟩
   have hj : j < len := by have := (List.getElem?_eq_some_iff.1 hu).1; rw [Lib.byteCells_length] at this; omega
   rw [hd j hj] at hu
   rw [← Qp, hcell j (by omega)]; exact hu
theorem open_isc {fuel : Nat} {cs : List Value} {x : DataW H × List MemPlace} (h : DataW.trod enc Tryz.prog w base spare held fuel 54 cs = some x) : ∃ a zs c, cs = [.slice a zs.length c] ∧ zs.length ≤ maxLen ∧ (∀ z ∈ zs, -9223372036854775808 ≤ z ∧ z ≤ 9223372036854775807) ∧ Rd w (.slice a zs.length c) (ZI zs) := by
 rcases open_ints Tryz.underlying54 Tryz.underlying3 cellsI h with ⟨hcs, hx⟩ | ⟨a, len, cap, zs, hcs, _, hl, hm, hz, hx, hcell, hwz⟩
 · exact ⟨none, [], 0, hcs, Nat.zero_le _, by simp, none, 0, rfl, fun h => absurd rfl h⟩
 · have hlz : len ≤ zs.length := by rw [hz]; split <;> omega
   have htl : (zs.take len).length = len := by rw [List.length_take]; omega
   refine ⟨some a, zs.take len, cap, by rw [htl]; exact hcs, by omega, fun z hz => bounds_i64 (hwz z (List.mem_of_mem_take hz)), some a, cap, by simp [ZI], fun hne => ?_⟩
   have hpos : 0 < len := by
    rcases Nat.eq_zero_or_pos len with h0 | h0
    · rw [h0] at hne; exact absurd rfl hne
    · exact h0
   have h0 := hcell 0 (by omega)
   obtain ⟨b, o, sp⟩ := a
   obtain rfl : sp = none := by have := World.cell?_spot h0; simpa [Addr.add] using this
   refine ⟨b, o, rfl, World.block_lt_of_cell? w _ h0, fun j u hu => ?_⟩
   have hj : j < len := by have := (List.getElem?_eq_some_iff.1 hu).1; unfold ZI at this; rw [List.length_map, htl] at this; exact this
   rw [← Qp, hcell j (by omega), ← hu]
   have hjz : j < zs.length := by omega
   simp [ZI, hj, hjz, List.getD]
theorem open_texts {r : Reach} {b0 : Nat} {v : Value} {d : DataW H} {p : List MemPlace} (hv : Value.okWide Tryz.prog w r b0 56 v) (h : DataW.Trod enc Tryz.prog w base spare held 56 v d p) : ∃ a c ts, v = .slice a (ts : List Bs).length c ∧ ts.length ≤ maxLen ∧ TxIn w a c ts := by
 obtain ⟨a0, len0, cap0, rfl⟩ := okWide_slice Tryz.underlying56 hv
 obtain ⟨fuel, hf⟩ := h
 rcases Go.Deep.open_slice1 Tryz.underlying56 cellsBt hf with ⟨hcs, _⟩ | ⟨a, len, cap, m, n, V, D, Pl, hcs, _, hl, hm, hmm, _, hx⟩
 · have e : Value.slice a0 len0 cap0 = .slice none 0 0 := by simpa [Value.cells] using hcs
   exact ⟨none, 0, [], e, Nat.zero_le _, Nat.le_refl _, fun i t h => (by simp at h)⟩
 · have e : Value.slice a0 len0 cap0 = .slice (some a) len cap := by simpa [Value.cells] using hcs
   have hlm : len ≤ m := by rw [hmm]; split <;> omega
   have each : ∀ i, i < len → ∃ bs : Bs, w.cell? (a.add i) = some (V i) ∧ Rd w (V i) (Lib.byteCells bs) := by
    intro i hi
    obtain ⟨h1, h2⟩ := hx i (by omega)
    obtain ⟨v, bs, e, hb, hr⟩ := open_rdc h2
    obtain rfl : V i = v := by simpa using e
    exact ⟨bs, h1, hr⟩
   obtain ⟨O, hO⟩ := Go.Deep.choose_lt each
   have hlen : ((List.range len).map O).length = len := by simp
   refine ⟨some a, cap, (List.range len).map O, by rw [e, hlen], by rw [hlen]; omega, by rw [hlen]; exact hl, fun i t ht => ?_⟩
   have hi : i < len := by have := (List.getElem?_eq_some_iff.1 ht).1; simpa using this
   have hto : t = O i := by simp [hi] at ht; exact ht.symm
   subst hto
   obtain ⟨hc0, hr⟩ := hO i hi
   obtain ⟨b, o, sp⟩ := a
   obtain rfl : sp = none := by have := World.cell?_spot (hO 0 (by omega)).1; simpa [Addr.add] using this
   have hr0 := hr
   obtain ⟨ua, uc, hV, _⟩ := hr0
   rw [Lib.byteCells_length] at hV
   refine ⟨b, o, ua, uc, rfl, ?_, by rw [← Qp, hc0, hV], by rw [← hV]; exact hr⟩
   rw [Qp] at hc0
   exact World.block_lt_of_cell? w _ hc0
theorem open_ints23 {r : Reach} {b0 : Nat} {v : Value} {d : DataW H} {p : List MemPlace} (hv : Value.okWide Tryz.prog w r b0 54 v) (h : DataW.Trod enc Tryz.prog w base spare held 54 v d p) : ∃ a zs c, v = .slice a zs.length c ∧ zs.length ≤ maxLen ∧ (∀ z ∈ zs, -9223372036854775808 ≤ z ∧ z ≤ 9223372036854775807) ∧ Rd w (.slice a zs.length c) (ZI zs) := by
 obtain ⟨a0, len0, cap0, rfl⟩ := okWide_slice Tryz.underlying54 hv
 obtain ⟨fuel, hf⟩ := h
 obtain ⟨a, zs, c, e, h1, h2, h3⟩ := open_isc hf
 exact ⟨a, zs, c, by simpa [Value.cells] using e, h1, h2, h3⟩
end
theorem auditFollows_j0 : (Rows.auditFollowsRow.inPlace == Tryz.prog.inPlace 5) = true := by kernel_rfl
theorem auditFollows_j1 : (Rows.auditFollowsRow.unfollowed == Tryz.prog.unfollowed 5) = true := by kernel_rfl
theorem auditFollows_j2 : (Rows.auditFollowsRow.recurses == Tryz.prog.recurses 5) = true := by kernel_rfl
theorem auditFollows_j3 : (Rows.auditFollowsRow.named == Tryz.prog.varsNamed 5) = true := by kernel_rfl
theorem auditFollows_j4 : (Rows.auditFollowsRow.lifted == Tryz.prog.liftsFinal) = true := by kernel_rfl
theorem auditFollows_j5 : (Tryz.prog.make == some Rows.auditFollowsRow.make) = true := by kernel_rfl
theorem auditFollows_closed : joinedFacts Tryz.prog 5 Tryz.f5 Rows.auditFollowsSpec Rows.auditFollowsRow = true := by
 unfold joinedFacts
 rw [jLaid, jMaps, jStops, jMay, auditFollows_j0, auditFollows_j1, auditFollows_j2, auditFollows_j3, auditFollows_j4, auditFollows_j5]
 kernel_rfl
theorem auditFollows_lifted (os : Os) (started : os.Started) (H : Type) (enc : TypeId × Value → H) :
 ReturnsInHanded {} Tryz.checked os 5 .any (fun w args => (Rows.auditFollowsSpec.pre enc Tryz.prog Tryz.f5 Rows.auditFollowsRow.domain false w args ∧ laidMetH Tryz.prog Rows.auditFollowsRow.laid w) ∧ sizedMet enc Tryz.prog Tryz.f5 (OpenSpec.ofChange Rows.auditFollowsSpec) false w args) (Rows.auditFollowsSpec.post enc Tryz.prog Tryz.f5 false true false false) := by
 refine returnsInHanded_of_change_and (C := Tryz.checked) (X := fun w _ => laidMetH Tryz.prog Rows.auditFollowsRow.laid w) (fun _ _ _ hh h => h.of_heap hh) own started (by kernel_rfl) Tryz.func5
  (ChangeSpec.witness_shaped (enc := enc) (C := Tryz.checked) (os := os) (X := fun w _ => laidMetH Tryz.prog Rows.auditFollowsRow.laid w) false (World.laidAll Tryz.prog os Rows.auditFollowsRow.laid) #[.slice none 0 0, .slice none 0 0, .int .i64 0] 8 (World.laidAll_os _ _ _)
   (World.shaped_of_ZipB (by kernel_rfl) (by kernel_rfl)) (by kernel_rfl) (by kernel_rfl) (by kernel_rfl)
   (by rw [MakeChecks.laidMetH_plain _ _ _ (by kernel_rfl)]; exact laidMet_laidAll _ (by kernel_rfl) (by kernel_rfl))) ?_
 intro W base args ds gs before hval0 hW hcnd hsz hL _
 have hval : ∀ (j : Nat) t v, Tryz.f5.params[j]? = some t → args[j]? = some v → Value.okWide Tryz.prog W .any base t v := hval0
 have hW' := hW
 obtain ⟨p, q, hA0, hV, rfl, hfz, hnd⟩ := hW
 have hA : DataW.TrodAll enc Tryz.prog W 0 (fun _ => true) true Tryz.f5.params.toList args.toList ds p := hA0
 rw [Tryz.params5] at hA hval
 obtain ⟨v0, vs0, d0, ds0, p0, q0, hargs, rfl, rfl, h0, r0⟩ := trodAll_cons hA
 obtain ⟨v1, vs1, d1, ds1, p1, q1, rfl, rfl, rfl, h1, r1⟩ := trodAll_cons r0
 obtain ⟨v2, vs2, d2, ds2, p2, q2, rfl, rfl, rfl, h2, r2⟩ := trodAll_cons r1
 obtain ⟨rfl, rfl, rfl⟩ := trodAll_nil r2
 obtain rfl : args = #[v0, v1, v2] := by cases args; simp_all
 obtain ⟨rfl, rfl⟩ := trodVars_none hV
 have k0 := h0
 have lt0 : ∀ x ∈ p0, x.block < W.heap.size := by obtain ⟨m, hm⟩ := k0; exact DataW.trod_lt m _ _ _ hm
 obtain ⟨ta0, tc0, ts0, rfl, htl0, hT0⟩ := open_texts (hval 0 56 v0 rfl rfl) h0
 have k1 := h1
 have lt1 : ∀ x ∈ p1, x.block < W.heap.size := by obtain ⟨m, hm⟩ := k1; exact DataW.trod_lt m _ _ _ hm
 obtain ⟨va1, zs1, vc1, rfl, hzl1, hzb1, hZ1⟩ := open_ints23 (hval 1 54 v1 rfl rfl) h1
 obtain ⟨a2, rfl, rfl, rfl, w2⟩ := open_int Tryz.underlying3 (hval 2 3 v2 rfl rfl) h2
 clear hA0 hval0
 refine (law_follows ta0 tc0 ts0 va1 vc1 zs1 a2 hzb1 (bounds_i64 w2) hzl1 htl0 W (laid_of hL) hT0 hZ1).mono fun e W' ⟨he, bel⟩ => ?_
 subst he
 exact ⟨_, rfl, _, _, _, [], _, [], hW', trodAll_mk1 (shut_bool Tryz.underlying4 _), (trodAll_cons_mk (Below.trod laidOut (by kernel_rfl) (of_decide_eq_true (by kernel_rfl)) k0 bel lt0) (trodAll_cons_mk (Below.trod laidOut (by kernel_rfl) (of_decide_eq_true (by kernel_rfl)) k1 bel lt1) (trodAll_cons_mk (shut_int Tryz.underlying3 w2) trodAll_mk0))), rfl, bel.frame _, fun h => by cases h⟩
theorem auditFollows_said : Rows.AuditFollowsSaid :=
 OpenClaim.holds_of_wide 5 Tryz.f5 rfl rfl rfl rfl rfl rfl rfl ⟨rfl, rfl, rfl, rfl, rfl⟩ rfl rfl rfl rfl rfl (by kernel_rfl) Tryz.func5 auditFollows_closed
  (of_decide_eq_true (by kernel_rfl)) (by unfold Func.isWrapper; first | (rw [if_pos (by decide +kernel)]; kernel_rfl) | (rw [if_neg (by decide +kernel)]; exact ⟨rfl, rfl⟩))
  (fun os started H enc _ => auditFollows_lifted os started H enc)
theorem auditFollows_proved : Rows.AuditFollowsCardSaid :=
 Claim7.holds_tied_plain_at .later [] [.data, .data, .data, .data, .pinned] true (true, "38afd91f725508eaffa4406eb5f1854cac6237fa10b1d624aad217799a60a8b0") true auditFollows_said (fun _ h => by cases h) (by kernel_rfl) (fun _ h => by cases h) auditFollows_row_tie rfl ⟨rfl, rfl⟩ (by kernel_rfl) rfl
  (fun f fn hf hfn => by
   obtain rfl : f = 5 := Option.some.inj ((show Tryz.prog.funcNamed "cachet/cachetlaw23.AuditFollows" = some 5 by kernel_rfl).symm.trans hf) |>.symm
   obtain rfl : fn = Tryz.f5 := (Option.some.inj (Tryz.func5.symm.trans hfn)).symm
   exact ⟨by kernel_rfl, fun j t ht => by
    rw [Tryz.params5] at ht
    have hm : t ∈ [56, 54, 3] := by simpa using Array.mem_of_getElem? ht
    have hall : ([56, 54, 3].all fun u => !Tryz.prog.wantsStandIn u) = true := by kernel_rfl
    exact (show Tryz.prog.wantsStandIn t = false by simpa using List.all_eq_true.1 hall t hm)⟩)
  (by kernel_rfl)
#print axioms auditFollows_proved
end
end Go.Proofs.YtbgefoamhdgnaaaGreatDoor
