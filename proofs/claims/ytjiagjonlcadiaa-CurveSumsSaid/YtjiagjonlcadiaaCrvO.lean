/- Chapter 04: which sum and difference any points have. -/
import Derived.Test.YtjiagjonlcadiaaCrvN
namespace Go.Proofs.Ytjiagjonlcadiaa
open Go.RowKit Go.Lib

theorem radd_lt (X1 Y1 Z1 T1 X2 Y2 Z2 T2 : Nat) : (radd X1 Y1 Z1 T1 X2 Y2 Z2 T2).1 < PP ∧ (radd X1 Y1 Z1 T1 X2 Y2 Z2 T2).2.1 < PP ∧ (radd X1 Y1 Z1 T1 X2 Y2 Z2 T2).2.2.1 < PP :=
  ⟨Nat.mod_lt _ PP_pos, Nat.mod_lt _ PP_pos, Nat.mod_lt _ PP_pos⟩
theorem keyn_256 (X Y Z : Nat) : keyn X Y Z < 115792089237316195423570985008687907853269984665640564039457584007913129639936 := by
  unfold keyn
  have h1 : Y * pwm Z (PP - 2) % PP < PP := Nat.mod_lt _ PP_pos
  have h2 : X * pwm Z (PP - 2) % PP % 2 < 2 := Nat.mod_lt _ (by omega)
  have := PP_255
  omega
theorem negP_lt (X : Nat) : negP X < PP := Nat.mod_lt _ PP_pos
/-- what the sum of two points of z 1 is, in both -/
theorem both_sum (x1 y1 c1 : Nat) (b1 : Bool) (X1 Y1 : Nat) (p1 : IsPt x1 y1 c1 b1 X1 Y1 1) (x2 y2 c2 : Nat) (b2 : Bool) (X2 Y2 T2 : Nat) (p2 : IsPt x2 y2 c2 b2 X2 Y2 1) (hT2 : T2 = X2 * Y2 % PP) (R : Nat × Nat × Nat × Nat) (hR : R = radd X1 Y1 1 (X1 * Y1 % PP) X2 Y2 1 T2) (w : World) :
    Calls Try.prog 51 #[.agg (pt x1 y1 c1 b1), .agg (pt x2 y2 c2 b2)] w (PtP R.1 R.2.1 R.2.2.1 w) := by
  have := pplus_any x1 y1 c1 b1 X1 Y1 1 p1 x2 y2 c2 b2 X2 Y2 1 p2 w
  rw [sums_agree X1 Y1 X2 Y2 T2 hT2, ← hR] at this
  exact this
theorem both_minus (x1 y1 c1 : Nat) (b1 : Bool) (X1 Y1 : Nat) (p1 : IsPt x1 y1 c1 b1 X1 Y1 1) (x2 y2 c2 : Nat) (b2 : Bool) (X2 Y2 T2 : Nat) (p2 : IsPt x2 y2 c2 b2 X2 Y2 1) (hT2 : negP T2 = negP X2 * Y2 % PP) (R : Nat × Nat × Nat × Nat) (hR : R = radd X1 Y1 1 (X1 * Y1 % PP) (negP X2) Y2 1 (negP T2)) (w : World) :
    Calls Try.prog 53 #[.agg (pt x1 y1 c1 b1), .agg (pt x2 y2 c2 b2)] w (PtP R.1 R.2.1 R.2.2.1 w) := by
  have := pminus_any x1 y1 c1 b1 X1 Y1 1 p1 x2 y2 c2 b2 X2 Y2 1 p2 w
  rw [sums_agree X1 Y1 (negP X2) Y2 (negP T2) hT2, ← hR] at this
  exact this

set_option maxRecDepth 100000 in
set_option linter.unusedSimpArgs false in
set_option maxHeartbeats 8000000 in
theorem law_curveSums (n1 n2 : Nat) (hn1 : n1 < 115792089237316195423570985008687907853269984665640564039457584007913129639936) (hn2 : n2 < 115792089237316195423570985008687907853269984665640564039457584007913129639936) (w : World) :
    Calls Try.prog 13 #[.agg (k32 n1), .agg (k32 n2)] w fun e w' => e = .returned (.bool true) ∧ Below w.heap.size w w' := by
  have hal := law4_alive
  have hof1 := fun w => pof_any n1 hn1 w
  have hof2 := fun w => pof_any n2 hn2 w
  have hro1 := fun w => rofp_any n1 hn1 w
  have hro2 := fun w => rofp_any n2 hn2 w
  obtain ⟨lx1, ly1⟩ := cof_lt n1
  obtain ⟨lx2, ly2⟩ := cof_lt n2
  have hsk := same_keys n1 n2
  have l1 : 1 < PP := by have := PP_val; omega
  unfold BeP at hof1 hof2
  obtain ⟨ok1, ho1⟩ : ∃ b, b = (cof n1).1 := ⟨_, rfl⟩
  obtain ⟨X1, e1⟩ : ∃ b, b = (cof n1).2.1 := ⟨_, rfl⟩
  obtain ⟨Y1, f1⟩ : ∃ b, b = (cof n1).2.2 := ⟨_, rfl⟩
  obtain ⟨ok2, ho2⟩ : ∃ b, b = (cof n2).1 := ⟨_, rfl⟩
  obtain ⟨X2, e2⟩ : ∃ b, b = (cof n2).2.1 := ⟨_, rfl⟩
  obtain ⟨Y2, f2⟩ : ∃ b, b = (cof n2).2.2 := ⟨_, rfl⟩
  simp only [← ho1, ← e1, ← f1] at hof1 hro1 lx1 ly1 hsk
  simp only [← ho2, ← e2, ← f2] at hof2 hro2 lx2 ly2 hsk
  rw [one_PP] at hof1 hof2
  obtain ⟨T1, hT1⟩ : ∃ t, t = X1 * Y1 % PP := ⟨_, rfl⟩
  obtain ⟨T2, hT2⟩ : ∃ t, t = X2 * Y2 % PP := ⟨_, rfl⟩
  have lt1 : T1 < PP := by rw [hT1]; exact Nat.mod_lt _ PP_pos
  have lt2 : T2 < PP := by rw [hT2]; exact Nat.mod_lt _ PP_pos
  have hnt : negP T2 = negP X2 * Y2 % PP := by rw [hT2]; exact neg_prod X2 Y2 lx2
  obtain ⟨R, hR⟩ : ∃ r, r = radd X1 Y1 1 T1 X2 Y2 1 T2 := ⟨_, rfl⟩
  obtain ⟨M, hM⟩ : ∃ r, r = radd X1 Y1 1 T1 (negP X2) Y2 1 (negP T2) := ⟨_, rfl⟩
  have hsum := fun x1 y1 c1 b1 h1 x2 y2 c2 b2 h2 w => both_sum x1 y1 c1 b1 X1 Y1 h1 x2 y2 c2 b2 X2 Y2 T2 h2 hT2 R (by rw [hR, hT1]) w
  have hmin := fun x1 y1 c1 b1 h1 x2 y2 c2 b2 h2 w => both_minus x1 y1 c1 b1 X1 Y1 h1 x2 y2 c2 b2 X2 Y2 T2 h2 hnt M (by rw [hM, hT1]) w
  have hrs := fun w => rpplus_any X1 Y1 1 T1 X2 Y2 1 T2 lx1 ly1 l1 lt1 lx2 ly2 l1 lt2 w
  have hrm := fun w => rpplus_any X1 Y1 1 T1 (negP X2) Y2 1 (negP T2) lx1 ly1 l1 lt1 (negP_lt X2) ly2 l1 (negP_lt T2) w
  have htu := fun w => turned_any X2 Y2 1 T2 lx2 lt2 w
  rw [← hR] at hrs
  rw [← hM] at hrm
  obtain ⟨rl1, rl2, rl3⟩ := radd_lt X1 Y1 1 T1 X2 Y2 1 T2
  obtain ⟨ml1, ml2, ml3⟩ := radd_lt X1 Y1 1 T1 (negP X2) Y2 1 (negP T2)
  rw [← hR] at rl1 rl2 rl3
  rw [← hM] at ml1 ml2 ml3
  have hkR := fun w => rkeyp_any R.1 R.2.1 R.2.2.1 R.2.2.2 rl1 rl2 rl3 w
  have hkM := fun w => rkeyp_any M.1 M.2.1 M.2.2.1 M.2.2.2 ml1 ml2 ml3 w
  have hk1 := fun w => rkeyp_any X1 Y1 1 T1 lx1 ly1 l1 w
  have hk2 := fun w => rkeyp_any X2 Y2 1 T2 lx2 ly2 l1 w
  have hpR := fun x y z b h w => pkey_any x y z b R.1 R.2.1 R.2.2.1 h w
  have hpM := fun x y z b h w => pkey_any x y z b M.1 M.2.1 M.2.2.1 h w
  have hiq := fun x1 y1 c1 b1 h1 x2 y2 c2 b2 h2 w => pis_any x1 y1 c1 b1 X1 Y1 1 h1 x2 y2 c2 b2 X2 Y2 1 h2 w
  have kR := keyn_256 R.1 R.2.1 R.2.2.1
  have kM := keyn_256 M.1 M.2.1 M.2.2.1
  have k1 := keyn_256 X1 Y1 1
  have k2 := keyn_256 X2 Y2 1
  obtain ⟨KR, eR⟩ : ∃ k, k = keyn R.1 R.2.1 R.2.2.1 := ⟨_, rfl⟩
  obtain ⟨KM, eM⟩ : ∃ k, k = keyn M.1 M.2.1 M.2.2.1 := ⟨_, rfl⟩
  obtain ⟨K1, eK1⟩ : ∃ k, k = keyn X1 Y1 1 := ⟨_, rfl⟩
  obtain ⟨K2, eK2⟩ : ∃ k, k = keyn X2 Y2 1 := ⟨_, rfl⟩
  simp only [← eR] at hkR hpR kR
  simp only [← eM] at hkM hpM kM
  simp only [← eK1, ← eK2] at hk1 hk2 k1 k2 hsk
  simp only [hsk] at hiq
  have heqR := fun w => k32_same KR kR w
  have heqM := fun w => k32_same KM kM w
  have heq3 := fun w => k32_eq K1 K2 k1 k2 w
  obtain ⟨bb, hbb⟩ : ∃ b, b = decide (K1 = K2) := ⟨_, rfl⟩
  simp only [← hbb] at hiq heq3
  rw [← hT1] at hro1
  rw [← hT2] at hro2
  obtain ⟨NX, hNX⟩ : ∃ n, n = negP X2 := ⟨_, rfl⟩
  obtain ⟨NT, hNT⟩ : ∃ n, n = negP T2 := ⟨_, rfl⟩
  simp only [← hNX, ← hNT] at hrm htu
  clear hbb hsk eR eM eK1 eK2 kR kM k1 k2 rl1 rl2 rl3 ml1 ml2 ml3 hR hM hnt hNX hNT lt1 lt2 hT1 hT2 lx1 ly1 lx2 ly2 l1 ho1 e1 f1 ho2 e2 f2
  have Hal := Lib.hid hal; clear hal
  have Hof1 := Lib.hid hof1; clear hof1
  have Hof2 := Lib.hid hof2; clear hof2
  have Hro1 := Lib.hid hro1; clear hro1
  have Hro2 := Lib.hid hro2; clear hro2
  have Hsum := Lib.hid hsum; clear hsum
  have Hmin := Lib.hid hmin; clear hmin
  have Hrs := Lib.hid hrs; clear hrs
  have Hrm := Lib.hid hrm; clear hrm
  have Htu := Lib.hid htu; clear htu
  have HkR := Lib.hid hkR; clear hkR
  have HkM := Lib.hid hkM; clear hkM
  have Hk1 := Lib.hid hk1; clear hk1
  have Hk2 := Lib.hid hk2; clear hk2
  have HpR := Lib.hid hpR; clear hpR
  have HpM := Lib.hid hpM; clear hpM
  have Hiq := Lib.hid hiq; clear hiq
  have HeqR := Lib.hid heqR; clear heqR
  have HeqM := Lib.hid heqM; clear heqM
  have Heq3 := Lib.hid heq3; clear heq3
  go_enter Try.func13, Try.ntmps13
  repeat ((fail_if_success (with_reducible (show wpList _ _ _ _ _ _))); go_step)
  refine wpList_step (fun K hK => ?_)
  go_simp
  (try go_bits)
  refine hK _ _ ?_
  clear hK K
  refine wpList_step (fun K hK => ?_)
  go_simp
  (try go_bits)
  refine hK _ _ ?_
  clear hK K
  refine wpList_step (fun K hK => ?_)
  go_simp
  (try go_bits)
  refine hK _ _ ?_
  clear hK K
  refine wpList_nil ?_
  have M2 := Lib.hid ((Has.new w  (k32 n1) 24).alloc (.cells (k32 n2) 24))
  have M3 := Lib.hid (Has.new1 w (.cells (k32 n1) 24) (k32 n2) 24)
  have HB := Lib.hid (below_2 w (.cells (k32 n1) 24) (.cells (k32 n2) 24))
  obtain ⟨yw1, hwyw1⟩ : ∃ ww, ww = ((w.alloc (.cells (k32 n1) 24)).alloc (.cells (k32 n2) 24)) := ⟨_, rfl⟩
  rw [← hwyw1] at M2 M3 HB ⊢
  clear hwyw1
  repeat ((fail_if_success (with_reducible (show wpList _ _ _ _ _ _))); go_step)
  refine wpList_call (by rfl) rfl rfl (by rfl) ent46 (by rfl) (Hal.out _) 13 rfl ?_
  rintro e uw1 ⟨rfl, hb⟩
  replace M2 := Lib.hid (M2.out.call hb)
  replace M3 := Lib.hid (M3.out.call hb)
  replace HB := Lib.hid (held_next HB.out hb)
  refine ⟨_, rfl, ?_⟩
  clear hb
  (try simp only [Act.put, sI, sS, sZ])
  refine wpList_step (fun K hK => ?_)
  go_simp
  (try go_bits)
  refine hK _ _ ?_
  clear hK K
  refine wpList_nil ?_
  repeat ((fail_if_success (with_reducible (show wpList _ _ _ _ _ _))); go_step)
  refine wpList_load (by rfl) 24 _ rfl (w.heap.size) rfl 24 (k32 n1) M2.out Try.underlying24 rfl (by rw [k32_size]; kernel_rfl) 16 rfl ?_
  (try simp only [Act.put, sI, sS, sZ])
  refine wpList_call (by rfl) rfl rfl (by rfl) ent47 (by rfl) (Hof1.out _) 17 rfl ?_
  rintro e uw2 ⟨x1, y1, c1, b1, p1, rfl, hb⟩
  replace M2 := Lib.hid (M2.out.call hb)
  replace M3 := Lib.hid (M3.out.call hb)
  replace HB := Lib.hid (held_next HB.out hb)
  refine ⟨_, rfl, ?_⟩
  clear hb
  (try simp only [Act.put, sI, sS, sZ])
  refine wpList_step (fun K hK => ?_)
  go_simp
  (try go_bits)
  refine hK _ _ ?_
  clear hK K
  refine wpList_step (fun K hK => ?_)
  go_simp
  (try go_bits)
  refine hK _ _ ?_
  clear hK K
  refine wpList_step (fun K hK => ?_)
  go_simp
  (try go_bits)
  refine hK _ _ ?_
  clear hK K
  refine wpList_alloc (by rfl) 53 rfl _ al53 5 rfl ?_
  intro yw2 hw2
  have hlt3 := M2.out.lt
  have hlt4 := M3.out.lt
  have hsz := HB.out.size
  have kq := M2.out.alloc (.cells z53 53); rw [← hw2] at kq; clear M2; have M2 := Lib.hid kq; clear kq
  have kq := M3.out.alloc (.cells z53 53); rw [← hw2] at kq; clear M3; have M3 := Lib.hid kq; clear kq
  have kq := HasN.new uw2 z53 53 13 (by kernel_rfl); rw [← hw2] at kq; have M5 := Lib.hid kq; clear kq
  have kq := HB.out.alloc hsz (.cells z53 53); rw [← hw2] at kq; clear HB; have HB := Lib.hid kq; clear kq hw2
  (try simp only [Act.put, sI, sS, sZ])
  first | (obtain ⟨Zq, hZ, mZ⟩ := M5.out) | (obtain ⟨Zq, hZ, mZ⟩ := M5.out.toN (pt_size ..))
  refine wpList_store2 (by rfl) 53 _ _ rfl rfl (uw2.heap.size) (pt x1 y1 c1 b1) rfl rfl 53 Zq mZ (by rw [pt_size]; kernel_rfl) (hZ.trans (pt_size ..).symm) (pt_one _ _ _ _) ?_
  intro yw5 hw2
  have kq := M2.out.setRow_other (uw2.heap.size) (pt x1 y1 c1 b1) (by omega); rw [← hw2] at kq; clear M2; have M2 := Lib.hid kq; clear kq
  have kq := M3.out.setRow_other (uw2.heap.size) (pt x1 y1 c1 b1) (by omega); rw [← hw2] at kq; clear M3; have M3 := Lib.hid kq; clear kq
  have kq := mZ.setRow (pt x1 y1 c1 b1); rw [← hw2] at kq; clear M5; have M5 := Lib.hid kq; clear kq mZ hZ
  have kq := below_setRow HB.out (uw2.heap.size) (pt x1 y1 c1 b1) (by omega); rw [← hw2] at kq; clear HB; have HB := Lib.hid kq; clear kq hw2
  refine wpList_step (fun K hK => ?_)
  go_simp
  (try go_bits)
  refine hK _ _ ?_
  clear hK K
  refine wpList_nil ?_
  have P1 := Lib.hid p1; clear p1
  repeat ((fail_if_success (with_reducible (show wpList _ _ _ _ _ _))); go_step)
  refine wpList_load (by rfl) 24 _ rfl (w.heap.size + 1) rfl 24 (k32 n2) M3.out Try.underlying24 rfl (by rw [k32_size]; kernel_rfl) 21 rfl ?_
  (try simp only [Act.put, sI, sS, sZ])
  refine wpList_call (by rfl) rfl rfl (by rfl) ent47 (by rfl) (Hof2.out _) 22 rfl ?_
  rintro e uw3 ⟨x2, y2, c2, b2, p2, rfl, hb⟩
  replace M2 := Lib.hid (M2.out.call hb)
  replace M3 := Lib.hid (M3.out.call hb)
  replace M5 := Lib.hid (M5.out.call hb)
  replace HB := Lib.hid (held_next HB.out hb)
  refine ⟨_, rfl, ?_⟩
  clear hb
  (try simp only [Act.put, sI, sS, sZ])
  refine wpList_step (fun K hK => ?_)
  go_simp
  (try go_bits)
  refine hK _ _ ?_
  clear hK K
  refine wpList_step (fun K hK => ?_)
  go_simp
  (try go_bits)
  refine hK _ _ ?_
  clear hK K
  refine wpList_step (fun K hK => ?_)
  go_simp
  (try go_bits)
  refine hK _ _ ?_
  clear hK K
  refine wpList_alloc (by rfl) 53 rfl _ al53 7 rfl ?_
  intro yw6 hw2
  have hlt7 := M2.out.lt
  have hlt8 := M3.out.lt
  have hlt9 := M5.out.lt
  have hsz := HB.out.size
  have kq := M2.out.alloc (.cells z53 53); rw [← hw2] at kq; clear M2; have M2 := Lib.hid kq; clear kq
  have kq := M3.out.alloc (.cells z53 53); rw [← hw2] at kq; clear M3; have M3 := Lib.hid kq; clear kq
  have kq := M5.out.alloc (.cells z53 53); rw [← hw2] at kq; clear M5; have M5 := Lib.hid kq; clear kq
  have kq := HasN.new uw3 z53 53 13 (by kernel_rfl); rw [← hw2] at kq; have M7 := Lib.hid kq; clear kq
  have kq := HB.out.alloc hsz (.cells z53 53); rw [← hw2] at kq; clear HB; have HB := Lib.hid kq; clear kq hw2
  (try simp only [Act.put, sI, sS, sZ])
  first | (obtain ⟨Zq, hZ, mZ⟩ := M7.out) | (obtain ⟨Zq, hZ, mZ⟩ := M7.out.toN (pt_size ..))
  refine wpList_store2 (by rfl) 53 _ _ rfl rfl (uw3.heap.size) (pt x2 y2 c2 b2) rfl rfl 53 Zq mZ (by rw [pt_size]; kernel_rfl) (hZ.trans (pt_size ..).symm) (pt_one _ _ _ _) ?_
  intro yw10 hw2
  have kq := M2.out.setRow_other (uw3.heap.size) (pt x2 y2 c2 b2) (by omega); rw [← hw2] at kq; clear M2; have M2 := Lib.hid kq; clear kq
  have kq := M3.out.setRow_other (uw3.heap.size) (pt x2 y2 c2 b2) (by omega); rw [← hw2] at kq; clear M3; have M3 := Lib.hid kq; clear kq
  have kq := M5.out.setRow_other (uw3.heap.size) (pt x2 y2 c2 b2) (by omega); rw [← hw2] at kq; clear M5; have M5 := Lib.hid kq; clear kq
  have kq := mZ.setRow (pt x2 y2 c2 b2); rw [← hw2] at kq; clear M7; have M7 := Lib.hid kq; clear kq mZ hZ
  have kq := below_setRow HB.out (uw3.heap.size) (pt x2 y2 c2 b2) (by omega); rw [← hw2] at kq; clear HB; have HB := Lib.hid kq; clear kq hw2
  refine wpList_step (fun K hK => ?_)
  go_simp
  (try go_bits)
  refine hK _ _ ?_
  clear hK K
  refine wpList_nil ?_
  have P2 := Lib.hid p2; clear p2
  repeat ((fail_if_success (with_reducible (show wpList _ _ _ _ _ _))); go_step)
  refine wpList_load (by rfl) 24 _ rfl (w.heap.size) rfl 24 (k32 n1) M2.out Try.underlying24 rfl (by rw [k32_size]; kernel_rfl) 26 rfl ?_
  (try simp only [Act.put, sI, sS, sZ])
  refine wpList_call (by rfl) rfl rfl (by rfl) ent48 (by rfl) (Hro1.out _) 27 rfl ?_
  rintro e uw4 ⟨rfl, hb⟩
  replace M2 := Lib.hid (M2.out.call hb)
  replace M3 := Lib.hid (M3.out.call hb)
  replace M5 := Lib.hid (M5.out.call hb)
  replace M7 := Lib.hid (M7.out.call hb)
  replace HB := Lib.hid (held_next HB.out hb)
  refine ⟨_, rfl, ?_⟩
  clear hb
  (try simp only [Act.put, sI, sS, sZ])
  refine wpList_step (fun K hK => ?_)
  go_simp
  (try go_bits)
  refine hK _ _ ?_
  clear hK K
  refine wpList_step (fun K hK => ?_)
  go_simp
  (try go_bits)
  refine hK _ _ ?_
  clear hK K
  refine wpList_step (fun K hK => ?_)
  go_simp
  (try go_bits)
  refine hK _ _ ?_
  clear hK K
  refine wpList_alloc (by rfl) 57 rfl _ al57 9 rfl ?_
  intro yw11 hw2
  have hlt12 := M2.out.lt
  have hlt13 := M3.out.lt
  have hlt14 := M5.out.lt
  have hlt15 := M7.out.lt
  have hsz := HB.out.size
  have kq := M2.out.alloc (.cells Try.zeroCells57 57); rw [← hw2] at kq; clear M2; have M2 := Lib.hid kq; clear kq
  have kq := M3.out.alloc (.cells Try.zeroCells57 57); rw [← hw2] at kq; clear M3; have M3 := Lib.hid kq; clear kq
  have kq := M5.out.alloc (.cells Try.zeroCells57 57); rw [← hw2] at kq; clear M5; have M5 := Lib.hid kq; clear kq
  have kq := M7.out.alloc (.cells Try.zeroCells57 57); rw [← hw2] at kq; clear M7; have M7 := Lib.hid kq; clear kq
  have kq := HasN.new uw4 Try.zeroCells57 57 88 (by kernel_rfl); rw [← hw2] at kq; have M9 := Lib.hid kq; clear kq
  have kq := HB.out.alloc hsz (.cells Try.zeroCells57 57); rw [← hw2] at kq; clear HB; have HB := Lib.hid kq; clear kq hw2
  (try simp only [Act.put, sI, sS, sZ])
  first | (obtain ⟨Zq, hZ, mZ⟩ := M9.out) | (obtain ⟨Zq, hZ, mZ⟩ := M9.out.toN (rp_size ..))
  refine wpList_store2 (by rfl) 57 _ _ rfl rfl (uw4.heap.size) (rp X1 Y1 1 T1) rfl rfl 57 Zq mZ (by rw [rp_size]; kernel_rfl) (hZ.trans (rp_size ..).symm) (rp_one _ _ _ _) ?_
  intro yw16 hw2
  have kq := M2.out.setRow_other (uw4.heap.size) (rp X1 Y1 1 T1) (by omega); rw [← hw2] at kq; clear M2; have M2 := Lib.hid kq; clear kq
  have kq := M3.out.setRow_other (uw4.heap.size) (rp X1 Y1 1 T1) (by omega); rw [← hw2] at kq; clear M3; have M3 := Lib.hid kq; clear kq
  have kq := M5.out.setRow_other (uw4.heap.size) (rp X1 Y1 1 T1) (by omega); rw [← hw2] at kq; clear M5; have M5 := Lib.hid kq; clear kq
  have kq := M7.out.setRow_other (uw4.heap.size) (rp X1 Y1 1 T1) (by omega); rw [← hw2] at kq; clear M7; have M7 := Lib.hid kq; clear kq
  have kq := mZ.setRow (rp X1 Y1 1 T1); rw [← hw2] at kq; clear M9; have M9 := Lib.hid kq; clear kq mZ hZ
  have kq := below_setRow HB.out (uw4.heap.size) (rp X1 Y1 1 T1) (by omega); rw [← hw2] at kq; clear HB; have HB := Lib.hid kq; clear kq hw2
  refine wpList_step (fun K hK => ?_)
  go_simp
  (try go_bits)
  refine hK _ _ ?_
  clear hK K
  refine wpList_nil ?_
  repeat ((fail_if_success (with_reducible (show wpList _ _ _ _ _ _))); go_step)
  refine wpList_load (by rfl) 24 _ rfl (w.heap.size + 1) rfl 24 (k32 n2) M3.out Try.underlying24 rfl (by rw [k32_size]; kernel_rfl) 31 rfl ?_
  (try simp only [Act.put, sI, sS, sZ])
  refine wpList_call (by rfl) rfl rfl (by rfl) ent48 (by rfl) (Hro2.out _) 32 rfl ?_
  rintro e uw5 ⟨rfl, hb⟩
  replace M2 := Lib.hid (M2.out.call hb)
  replace M3 := Lib.hid (M3.out.call hb)
  replace M5 := Lib.hid (M5.out.call hb)
  replace M7 := Lib.hid (M7.out.call hb)
  replace M9 := Lib.hid (M9.out.call hb)
  replace HB := Lib.hid (held_next HB.out hb)
  refine ⟨_, rfl, ?_⟩
  clear hb
  (try simp only [Act.put, sI, sS, sZ])
  refine wpList_step (fun K hK => ?_)
  go_simp
  (try go_bits)
  refine hK _ _ ?_
  clear hK K
  refine wpList_step (fun K hK => ?_)
  go_simp
  (try go_bits)
  refine hK _ _ ?_
  clear hK K
  refine wpList_step (fun K hK => ?_)
  go_simp
  (try go_bits)
  refine hK _ _ ?_
  clear hK K
  refine wpList_alloc (by rfl) 57 rfl _ al57 11 rfl ?_
  intro yw17 hw2
  have hlt18 := M2.out.lt
  have hlt19 := M3.out.lt
  have hlt20 := M5.out.lt
  have hlt21 := M7.out.lt
  have hlt22 := M9.out.lt
  have hsz := HB.out.size
  have kq := M2.out.alloc (.cells Try.zeroCells57 57); rw [← hw2] at kq; clear M2; have M2 := Lib.hid kq; clear kq
  have kq := M3.out.alloc (.cells Try.zeroCells57 57); rw [← hw2] at kq; clear M3; have M3 := Lib.hid kq; clear kq
  have kq := M5.out.alloc (.cells Try.zeroCells57 57); rw [← hw2] at kq; clear M5; have M5 := Lib.hid kq; clear kq
  have kq := M7.out.alloc (.cells Try.zeroCells57 57); rw [← hw2] at kq; clear M7; have M7 := Lib.hid kq; clear kq
  have kq := M9.out.alloc (.cells Try.zeroCells57 57); rw [← hw2] at kq; clear M9; have M9 := Lib.hid kq; clear kq
  have kq := HasN.new uw5 Try.zeroCells57 57 88 (by kernel_rfl); rw [← hw2] at kq; have M11 := Lib.hid kq; clear kq
  have kq := HB.out.alloc hsz (.cells Try.zeroCells57 57); rw [← hw2] at kq; clear HB; have HB := Lib.hid kq; clear kq hw2
  (try simp only [Act.put, sI, sS, sZ])
  first | (obtain ⟨Zq, hZ, mZ⟩ := M11.out) | (obtain ⟨Zq, hZ, mZ⟩ := M11.out.toN (rp_size ..))
  refine wpList_store2 (by rfl) 57 _ _ rfl rfl (uw5.heap.size) (rp X2 Y2 1 T2) rfl rfl 57 Zq mZ (by rw [rp_size]; kernel_rfl) (hZ.trans (rp_size ..).symm) (rp_one _ _ _ _) ?_
  intro yw23 hw2
  have kq := M2.out.setRow_other (uw5.heap.size) (rp X2 Y2 1 T2) (by omega); rw [← hw2] at kq; clear M2; have M2 := Lib.hid kq; clear kq
  have kq := M3.out.setRow_other (uw5.heap.size) (rp X2 Y2 1 T2) (by omega); rw [← hw2] at kq; clear M3; have M3 := Lib.hid kq; clear kq
  have kq := M5.out.setRow_other (uw5.heap.size) (rp X2 Y2 1 T2) (by omega); rw [← hw2] at kq; clear M5; have M5 := Lib.hid kq; clear kq
  have kq := M7.out.setRow_other (uw5.heap.size) (rp X2 Y2 1 T2) (by omega); rw [← hw2] at kq; clear M7; have M7 := Lib.hid kq; clear kq
  have kq := M9.out.setRow_other (uw5.heap.size) (rp X2 Y2 1 T2) (by omega); rw [← hw2] at kq; clear M9; have M9 := Lib.hid kq; clear kq
  have kq := mZ.setRow (rp X2 Y2 1 T2); rw [← hw2] at kq; clear M11; have M11 := Lib.hid kq; clear kq mZ hZ
  have kq := below_setRow HB.out (uw5.heap.size) (rp X2 Y2 1 T2) (by omega); rw [← hw2] at kq; clear HB; have HB := Lib.hid kq; clear kq hw2
  refine wpList_step (fun K hK => ?_)
  go_simp
  (try go_bits)
  refine hK _ _ ?_
  clear hK K
  refine wpList_nil ?_
  clear M2 M3
  repeat ((fail_if_success (with_reducible (show wpList _ _ _ _ _ _))); go_step)
  refine wpList_step (fun K hK => ?_)
  go_simp
  (try go_bits)
  refine hK _ _ ?_
  clear hK K
  refine wpList_step (fun K hK => ?_)
  go_simp
  (try go_bits)
  refine hK _ _ ?_
  clear hK K
  refine wpList_step (fun K hK => ?_)
  go_simp
  (try go_bits)
  refine hK _ _ ?_
  clear hK K
  refine wpList_step (fun K hK => ?_)
  go_simp
  (try go_bits)
  refine hK _ _ ?_
  clear hK K
  refine wpList_step (fun K hK => ?_)
  go_simp
  (try go_bits)
  refine hK _ _ ?_
  clear hK K
  refine wpList_step (fun K hK => ?_)
  go_simp
  (try go_bits)
  refine hK _ _ ?_
  clear hK K
  refine wpList_step (fun K hK => ?_)
  go_simp
  (try go_bits)
  refine hK _ _ ?_
  clear hK K
  refine wpList_step (fun K hK => ?_)
  go_simp
  (try go_bits)
  refine hK _ _ ?_
  clear hK K
  refine wpList_nil ?_
  repeat ((fail_if_success (with_reducible (show wpList _ _ _ _ _ _))); go_step)
  have heqR := HeqR.out
  have heqM := HeqM.out
  have heq3 := Heq3.out
  refine wp_region_noPanic ?_
  refine wp_region_go 99 33 #[false, false, false, false, false, false, false, false, false, false, false, false, false, false, false, false, false, false, false, false, false, false, false, false, false, false, false, false, false, false, false, false, false] (by kernel_rfl) rfl rfl ?_
  intro W24 hW24
  have kq := M5.out; rw [← hW24] at kq; clear M5; have M5 := Lib.hid kq; clear kq
  have kq := M7.out; rw [← hW24] at kq; clear M7; have M7 := Lib.hid kq; clear kq
  have kq := M9.out; rw [← hW24] at kq; clear M9; have M9 := Lib.hid kq; clear kq
  have kq := M11.out; rw [← hW24] at kq; clear M11; have M11 := Lib.hid kq; clear kq
  have kq := HB.out; rw [← hW24] at kq; clear HB; have HB := Lib.hid kq; clear kq
  clear hW24
  refine go_take2 0 43 #[true, false, false, false, false, false, false, false, false, false, false, false, false, false, false, false, false, false, false, false, false, false, false, false, false, false, false, false, false, false, false, false, false] rfl rfl rfl (by kernel_rfl) (yieldsIf_load_row (by rfl) 53 _ rfl (uw2.heap.size) rfl 53 (pt x1 y1 c1 b1) (fun _ h => M5.out.below h M5.out.lt) Try.underlying53 rfl (by rw [pt_size]; kernel_rfl)) ((below_dr W24)) ?_
  (try simp only [sI, sS, sZ])
  refine go_take2 1 44 #[true, true, false, false, false, false, false, false, false, false, false, false, false, false, false, false, false, false, false, false, false, false, false, false, false, false, false, false, false, false, false, false, false] rfl rfl rfl (by kernel_rfl) (yieldsIf_load_row (by rfl) 53 _ rfl (uw3.heap.size) rfl 53 (pt x2 y2 c2 b2) (fun _ h => M7.out.below h M7.out.lt) Try.underlying53 rfl (by rw [pt_size]; kernel_rfl)) ((below_dr W24)) ?_
  (try simp only [sI, sS, sZ])
  refine go_take2 4 47 #[true, true, false, false, true, false, false, false, false, false, false, false, false, false, false, false, false, false, false, false, false, false, false, false, false, false, false, false, false, false, false, false, false] rfl rfl rfl (by kernel_rfl) (yieldsIf_load_row (by rfl) 57 _ rfl (uw4.heap.size) rfl 57 (rp X1 Y1 1 T1) (fun _ h => M9.out.below h M9.out.lt) Try.underlying57 rfl (by rw [rp_size]; kernel_rfl)) ((below_dr W24)) ?_
  (try simp only [sI, sS, sZ])
  refine go_take2 5 48 #[true, true, false, false, true, true, false, false, false, false, false, false, false, false, false, false, false, false, false, false, false, false, false, false, false, false, false, false, false, false, false, false, false] rfl rfl rfl (by kernel_rfl) (yieldsIf_load_row (by rfl) 57 _ rfl (uw5.heap.size) rfl 57 (rp X2 Y2 1 T2) (fun _ h => M11.out.below h M11.out.lt) Try.underlying57 rfl (by rw [rp_size]; kernel_rfl)) ((below_dr W24)) ?_
  (try simp only [sI, sS, sZ])
  refine wpBut_r1 (i := 2) (by kernel_rfl) ?_
  refine go_call 2 45 #[true, true, true, false, true, true, false, false, false, false, false, false, false, false, false, false, false, false, false, false, false, false, false, false, false, false, false, false, false, false, false, false, false] rfl rfl rfl (by rfl) rfl rfl (by rfl) ent51 (by rfl) (Hsum.out x1 y1 c1 b1 P1.out x2 y2 c2 b2 P2.out _) ?_
  rintro e wW241 ⟨x3, y3, c3, b3, p3, rfl, hb⟩
  have hkW241 := held_next (below_dr W24) hb
  refine ⟨_, rfl, fun _ => hkW241, ?_⟩
  clear hb
  (try simp only [sI, sS, sZ])
  refine wpBut_r1 (i := 3) (by kernel_rfl) ?_
  refine go_call 3 46 #[true, true, true, true, true, true, false, false, false, false, false, false, false, false, false, false, false, false, false, false, false, false, false, false, false, false, false, false, false, false, false, false, false] rfl rfl rfl (by rfl) rfl rfl (by rfl) ent49 (by rfl) (HpR.out x3 y3 c3 b3 p3 _) ?_
  rintro e wW242 ⟨rfl, hb⟩
  have hkW242 := held_next hkW241 hb
  refine ⟨_, rfl, fun _ => hkW242, ?_⟩
  clear hb
  (try simp only [sI, sS, sZ])
  refine wpBut_r1 (i := 6) (by kernel_rfl) ?_
  refine go_call 6 49 #[true, true, true, true, true, true, true, false, false, false, false, false, false, false, false, false, false, false, false, false, false, false, false, false, false, false, false, false, false, false, false, false, false] rfl rfl rfl (by rfl) rfl rfl (by rfl) ent52 (by rfl) (Hrs.out _) ?_
  rintro e wW243 ⟨rfl, hb⟩
  have hkW243 := held_next hkW242 hb
  refine ⟨_, rfl, fun _ => hkW243, ?_⟩
  clear hb
  (try simp only [sI, sS, sZ])
  refine wpBut_r1 (i := 7) (by kernel_rfl) ?_
  refine go_call 7 50 #[true, true, true, true, true, true, true, true, false, false, false, false, false, false, false, false, false, false, false, false, false, false, false, false, false, false, false, false, false, false, false, false, false] rfl rfl rfl (by rfl) rfl rfl (by rfl) ent50 (by rfl) (HkR.out _) ?_
  rintro e wW244 ⟨rfl, hb⟩
  have hkW244 := held_next hkW243 hb
  refine ⟨_, rfl, fun _ => hkW244, ?_⟩
  clear hb
  (try simp only [sI, sS, sZ])
  refine go_take2 8 51 #[true, true, true, true, true, true, true, true, true, false, false, false, false, false, false, false, false, false, false, false, false, false, false, false, false, false, false, false, false, false, false, false, false] (v := ?uv1) rfl rfl rfl (by kernel_rfl) (Or.inl ⟨by rfl, ?uy1⟩) (hkW244) ?urest1
  case uy1 => (intro _ _; go_simp; try with_reducible rfl)
  (try simp only [sI, sS, sZ])
  refine go_take2 9 52 #[true, true, true, true, true, true, true, true, true, true, false, false, false, false, false, false, false, false, false, false, false, false, false, false, false, false, false, false, false, false, false, false, false] (v := ?uv2) rfl rfl rfl (by kernel_rfl) (Or.inl ⟨by rfl, ?uy2⟩) (hkW244) ?urest2
  case uy2 => (intro _ _; go_simp; try with_reducible rfl)
  (try simp only [sI, sS, sZ])
  refine go_take2 10 53 #[true, true, true, true, true, true, true, true, true, true, true, false, false, false, false, false, false, false, false, false, false, false, false, false, false, false, false, false, false, false, false, false, false] rfl rfl rfl (by kernel_rfl) (yieldsIf_load_row (by rfl) 53 _ rfl (uw2.heap.size) rfl 53 (pt x1 y1 c1 b1) (fun _ h => M5.out.below h M5.out.lt) Try.underlying53 rfl (by rw [pt_size]; kernel_rfl)) (hkW244) ?_
  (try simp only [sI, sS, sZ])
  refine go_take2 11 54 #[true, true, true, true, true, true, true, true, true, true, true, true, false, false, false, false, false, false, false, false, false, false, false, false, false, false, false, false, false, false, false, false, false] rfl rfl rfl (by kernel_rfl) (yieldsIf_load_row (by rfl) 53 _ rfl (uw3.heap.size) rfl 53 (pt x2 y2 c2 b2) (fun _ h => M7.out.below h M7.out.lt) Try.underlying53 rfl (by rw [pt_size]; kernel_rfl)) (hkW244) ?_
  (try simp only [sI, sS, sZ])
  refine go_take2 14 57 #[true, true, true, true, true, true, true, true, true, true, true, true, false, false, true, false, false, false, false, false, false, false, false, false, false, false, false, false, false, false, false, false, false] rfl rfl rfl (by kernel_rfl) (yieldsIf_load_row (by rfl) 57 _ rfl (uw4.heap.size) rfl 57 (rp X1 Y1 1 T1) (fun _ h => M9.out.below h M9.out.lt) Try.underlying57 rfl (by rw [rp_size]; kernel_rfl)) (hkW244) ?_
  (try simp only [sI, sS, sZ])
  refine go_take2 15 58 #[true, true, true, true, true, true, true, true, true, true, true, true, false, false, true, true, false, false, false, false, false, false, false, false, false, false, false, false, false, false, false, false, false] rfl rfl rfl (by kernel_rfl) (yieldsIf_load_row (by rfl) 57 _ rfl (uw5.heap.size) rfl 57 (rp X2 Y2 1 T2) (fun _ h => M11.out.below h M11.out.lt) Try.underlying57 rfl (by rw [rp_size]; kernel_rfl)) (hkW244) ?_
  (try simp only [sI, sS, sZ])
  refine wpBut_r1 (i := 12) (by kernel_rfl) ?_
  refine go_call 12 55 #[true, true, true, true, true, true, true, true, true, true, true, true, true, false, true, true, false, false, false, false, false, false, false, false, false, false, false, false, false, false, false, false, false] rfl rfl rfl (by rfl) rfl rfl (by rfl) ent53 (by rfl) (Hmin.out x1 y1 c1 b1 P1.out x2 y2 c2 b2 P2.out _) ?_
  rintro e wW245 ⟨x4, y4, c4, b4, p4, rfl, hb⟩
  have hkW245 := held_next hkW244 hb
  refine ⟨_, rfl, fun _ => hkW245, ?_⟩
  clear hb
  (try simp only [sI, sS, sZ])
  refine wpBut_r1 (i := 13) (by kernel_rfl) ?_
  refine go_call 13 56 #[true, true, true, true, true, true, true, true, true, true, true, true, true, true, true, true, false, false, false, false, false, false, false, false, false, false, false, false, false, false, false, false, false] rfl rfl rfl (by rfl) rfl rfl (by rfl) ent49 (by rfl) (HpM.out x4 y4 c4 b4 p4 _) ?_
  rintro e wW246 ⟨rfl, hb⟩
  have hkW246 := held_next hkW245 hb
  refine ⟨_, rfl, fun _ => hkW246, ?_⟩
  clear hb
  (try simp only [sI, sS, sZ])
  refine wpBut_r1 (i := 16) (by kernel_rfl) ?_
  refine go_call 16 59 #[true, true, true, true, true, true, true, true, true, true, true, true, true, true, true, true, true, false, false, false, false, false, false, false, false, false, false, false, false, false, false, false, false] rfl rfl rfl (by rfl) rfl rfl (by rfl) ent54 (by rfl) (Htu.out _) ?_
  rintro e wW247 ⟨rfl, hb⟩
  have hkW247 := held_next hkW246 hb
  refine ⟨_, rfl, fun _ => hkW247, ?_⟩
  clear hb
  (try simp only [sI, sS, sZ])
  refine wpBut_r1 (i := 17) (by kernel_rfl) ?_
  refine go_call 17 60 #[true, true, true, true, true, true, true, true, true, true, true, true, true, true, true, true, true, true, false, false, false, false, false, false, false, false, false, false, false, false, false, false, false] rfl rfl rfl (by rfl) rfl rfl (by rfl) ent52 (by rfl) (Hrm.out _) ?_
  rintro e wW248 ⟨rfl, hb⟩
  have hkW248 := held_next hkW247 hb
  refine ⟨_, rfl, fun _ => hkW248, ?_⟩
  clear hb
  (try simp only [sI, sS, sZ])
  refine wpBut_r1 (i := 18) (by kernel_rfl) ?_
  refine go_call 18 61 #[true, true, true, true, true, true, true, true, true, true, true, true, true, true, true, true, true, true, true, false, false, false, false, false, false, false, false, false, false, false, false, false, false] rfl rfl rfl (by rfl) rfl rfl (by rfl) ent50 (by rfl) (HkM.out _) ?_
  rintro e wW249 ⟨rfl, hb⟩
  have hkW249 := held_next hkW248 hb
  refine ⟨_, rfl, fun _ => hkW249, ?_⟩
  clear hb
  (try simp only [sI, sS, sZ])
  refine go_take2 19 62 #[true, true, true, true, true, true, true, true, true, true, true, true, true, true, true, true, true, true, true, true, false, false, false, false, false, false, false, false, false, false, false, false, false] (v := ?uv3) rfl rfl rfl (by kernel_rfl) (Or.inl ⟨by rfl, ?uy3⟩) (hkW249) ?urest3
  case uy3 => (intro _ _; go_simp; try with_reducible rfl)
  (try simp only [sI, sS, sZ])
  refine go_take2 20 63 #[true, true, true, true, true, true, true, true, true, true, true, true, true, true, true, true, true, true, true, true, true, false, false, false, false, false, false, false, false, false, false, false, false] (v := ?uv4) rfl rfl rfl (by kernel_rfl) (Or.inl ⟨by rfl, ?uy4⟩) (hkW249) ?urest4
  case uy4 => (intro _ _; go_simp; try with_reducible rfl)
  (try simp only [sI, sS, sZ])
  refine go_take2 21 64 #[true, true, true, true, true, true, true, true, true, true, true, true, true, true, true, true, true, true, true, true, true, true, false, false, false, false, false, false, false, false, false, false, false] (v := ?uv5) rfl rfl rfl (by kernel_rfl) (Or.inl ⟨by rfl, ?uy5⟩) (hkW249) ?urest5
  case uy5 => (intro _ _; go_simp; try with_reducible rfl)
  (try simp only [sI, sS, sZ])
  refine go_take2 22 65 #[true, true, true, true, true, true, true, true, true, true, true, true, true, true, true, true, true, true, true, true, true, true, true, false, false, false, false, false, false, false, false, false, false] rfl rfl rfl (by kernel_rfl) (yieldsIf_load_row (by rfl) 53 _ rfl (uw2.heap.size) rfl 53 (pt x1 y1 c1 b1) (fun _ h => M5.out.below h M5.out.lt) Try.underlying53 rfl (by rw [pt_size]; kernel_rfl)) (hkW249) ?_
  (try simp only [sI, sS, sZ])
  refine go_take2 23 66 #[true, true, true, true, true, true, true, true, true, true, true, true, true, true, true, true, true, true, true, true, true, true, true, true, false, false, false, false, false, false, false, false, false] rfl rfl rfl (by kernel_rfl) (yieldsIf_load_row (by rfl) 53 _ rfl (uw3.heap.size) rfl 53 (pt x2 y2 c2 b2) (fun _ h => M7.out.below h M7.out.lt) Try.underlying53 rfl (by rw [pt_size]; kernel_rfl)) (hkW249) ?_
  (try simp only [sI, sS, sZ])
  refine go_take2 25 68 #[true, true, true, true, true, true, true, true, true, true, true, true, true, true, true, true, true, true, true, true, true, true, true, true, false, true, false, false, false, false, false, false, false] rfl rfl rfl (by kernel_rfl) (yieldsIf_load_row (by rfl) 57 _ rfl (uw4.heap.size) rfl 57 (rp X1 Y1 1 T1) (fun _ h => M9.out.below h M9.out.lt) Try.underlying57 rfl (by rw [rp_size]; kernel_rfl)) (hkW249) ?_
  (try simp only [sI, sS, sZ])
  refine go_take2 27 70 #[true, true, true, true, true, true, true, true, true, true, true, true, true, true, true, true, true, true, true, true, true, true, true, true, false, true, false, true, false, false, false, false, false] rfl rfl rfl (by kernel_rfl) (yieldsIf_load_row (by rfl) 57 _ rfl (uw5.heap.size) rfl 57 (rp X2 Y2 1 T2) (fun _ h => M11.out.below h M11.out.lt) Try.underlying57 rfl (by rw [rp_size]; kernel_rfl)) (hkW249) ?_
  (try simp only [sI, sS, sZ])
  refine wpBut_r1 (i := 24) (by kernel_rfl) ?_
  refine go_call 24 67 #[true, true, true, true, true, true, true, true, true, true, true, true, true, true, true, true, true, true, true, true, true, true, true, true, true, true, false, true, false, false, false, false, false] rfl rfl rfl (by rfl) rfl rfl (by rfl) ent55 (by rfl) (Hiq.out x1 y1 c1 b1 P1.out x2 y2 c2 b2 P2.out _) ?_
  rintro e wW2410 ⟨rfl, hb⟩
  have hkW2410 := held_next hkW249 hb
  refine ⟨_, rfl, fun _ => hkW2410, ?_⟩
  clear hb
  (try simp only [sI, sS, sZ])
  refine wpBut_r1 (i := 26) (by kernel_rfl) ?_
  refine go_call 26 69 #[true, true, true, true, true, true, true, true, true, true, true, true, true, true, true, true, true, true, true, true, true, true, true, true, true, true, true, true, false, false, false, false, false] rfl rfl rfl (by rfl) rfl rfl (by rfl) ent50 (by rfl) (Hk1.out _) ?_
  rintro e wW2411 ⟨rfl, hb⟩
  have hkW2411 := held_next hkW2410 hb
  refine ⟨_, rfl, fun _ => hkW2411, ?_⟩
  clear hb
  (try simp only [sI, sS, sZ])
  refine wpBut_r1 (i := 28) (by kernel_rfl) ?_
  refine go_call 28 71 #[true, true, true, true, true, true, true, true, true, true, true, true, true, true, true, true, true, true, true, true, true, true, true, true, true, true, true, true, true, false, false, false, false] rfl rfl rfl (by rfl) rfl rfl (by rfl) ent50 (by rfl) (Hk2.out _) ?_
  rintro e wW2412 ⟨rfl, hb⟩
  have hkW2412 := held_next hkW2411 hb
  refine ⟨_, rfl, fun _ => hkW2412, ?_⟩
  clear hb
  (try simp only [sI, sS, sZ])
  refine go_take2 29 72 #[true, true, true, true, true, true, true, true, true, true, true, true, true, true, true, true, true, true, true, true, true, true, true, true, true, true, true, true, true, true, false, false, false] (v := ?uv6) rfl rfl rfl (by kernel_rfl) (Or.inl ⟨by rfl, ?uy6⟩) (hkW2412) ?urest6
  case uy6 => (intro _ _; go_simp; try with_reducible rfl)
  (try simp only [sI, sS, sZ])
  refine go_take2 30 73 #[true, true, true, true, true, true, true, true, true, true, true, true, true, true, true, true, true, true, true, true, true, true, true, true, true, true, true, true, true, true, true, false, false] (v := ?uv7) rfl rfl rfl (by kernel_rfl) (Or.inl ⟨by rfl, ?uy7⟩) (hkW2412) ?urest7
  case uy7 => (intro _ _; go_simp; try with_reducible rfl)
  (try simp only [sI, sS, sZ])
  refine go_take2 31 74 #[true, true, true, true, true, true, true, true, true, true, true, true, true, true, true, true, true, true, true, true, true, true, true, true, true, true, true, true, true, true, true, true, false] (v := ?uv8) rfl rfl rfl (by kernel_rfl) (Or.inl ⟨by rfl, ?uy8⟩) (hkW2412) ?urest8
  case uy8 => (intro _ _; go_simp; try with_reducible rfl)
  (try simp only [sI, sS, sZ])
  refine go_take2 32 4 #[true, true, true, true, true, true, true, true, true, true, true, true, true, true, true, true, true, true, true, true, true, true, true, true, true, true, true, true, true, true, true, true, true] (v := ?uv9) rfl rfl rfl (by kernel_rfl) (Or.inl ⟨by rfl, ?uy9⟩) (hkW2412) ?urest9
  case uy9 => (intro _ _; go_simp; try with_reducible rfl)
  (try simp only [sI, sS, sZ])
  refine wpBut_done (by kernel_rfl) (NoPanic.normal ?_)
  replace M5 := Lib.hid (M5.out.call hkW2412)
  replace M7 := Lib.hid (M7.out.call hkW2412)
  replace M9 := Lib.hid (M9.out.call hkW2412)
  replace M11 := Lib.hid (M11.out.call hkW2412)
  replace HB := Lib.hid (held_next HB.out hkW2412)
  go_wp2_with fail
  go_ret
  exact ⟨by simp, HB.out⟩
end Go.Proofs.Ytjiagjonlcadiaa
