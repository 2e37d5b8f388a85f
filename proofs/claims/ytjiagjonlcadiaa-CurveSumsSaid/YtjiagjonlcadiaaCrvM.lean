/- The reference's points: Plus, Turned. -/
import Derived.Test.YtjiagjonlcadiaaCrvF
namespace Go.Proofs.Ytjiagjonlcadiaa
open Go.RowKit Go.Lib

/-- the reference's sum of two points -/
def radd (X1 Y1 Z1 T1 X2 Y2 Z2 T2 : Nat) : Nat × Nat × Nat × Nat :=
  let A := X1 * X2 % PP
  let B := Y1 * Y2 % PP
  let C0 := T1 * T2 % PP
  let C := SL * C0 % PP
  let D := Z1 * Z2 % PP
  let E1 := X1 * Y2 % PP
  let E2 := Y1 * X2 % PP
  let E := (E1 + E2) % PP
  let F := (D + (PP - C)) % PP
  let G := (D + C) % PP
  let H := (B + A) % PP
  (E * F % PP, G * H % PP, F * G % PP, E * H % PP)
theorem radd_def (X1 Y1 Z1 T1 X2 Y2 Z2 T2 A Bq C0 Cq Dq E1 E2 E F G Hq X3 Y3 Z3 T3 : Nat) (hA : A = X1 * X2 % PP) (hBq : Bq = Y1 * Y2 % PP) (hC0 : C0 = T1 * T2 % PP) (hCq : Cq = SL * C0 % PP) (hDq : Dq = Z1 * Z2 % PP) (hE1 : E1 = X1 * Y2 % PP) (hE2 : E2 = Y1 * X2 % PP) (hE : E = (E1 + E2) % PP) (hF : F = (Dq + (PP - Cq)) % PP) (hG : G = (Dq + Cq) % PP) (hHq : Hq = (Bq + A) % PP) (hX3 : X3 = E * F % PP) (hY3 : Y3 = G * Hq % PP) (hZ3 : Z3 = F * G % PP) (hT3 : T3 = E * Hq % PP) : radd X1 Y1 Z1 T1 X2 Y2 Z2 T2 = (X3, Y3, Z3, T3) := by
  unfold radd
  rw [hX3, hY3, hZ3, hT3, hF, hG, hE, hE1, hE2, hHq, hCq, hC0, hDq, hA, hBq]

set_option maxRecDepth 100000 in
set_option linter.unusedSimpArgs false in
set_option maxHeartbeats 8000000 in
theorem rpplus_any (X1 Y1 Z1 T1 X2 Y2 Z2 T2 : Nat) (x1 : X1 < PP) (y1 : Y1 < PP) (z1 : Z1 < PP) (t1 : T1 < PP) (x2 : X2 < PP) (y2 : Y2 < PP) (z2 : Z2 < PP) (t2 : T2 < PP) (w : World) :
    Calls Try.prog 52 #[.agg (rp X1 Y1 Z1 T1), .agg (rp X2 Y2 Z2 T2)] w fun e w' => e = .returned (.agg (rp (radd X1 Y1 Z1 T1 X2 Y2 Z2 T2).1 (radd X1 Y1 Z1 T1 X2 Y2 Z2 T2).2.1 (radd X1 Y1 Z1 T1 X2 Y2 Z2 T2).2.2.1 (radd X1 Y1 Z1 T1 X2 Y2 Z2 T2).2.2.2)) ∧ Below w.heap.size w w' := by
  obtain ⟨A, hA⟩ : ∃ v, v = X1 * X2 % PP := ⟨_, rfl⟩
  have lA : A < PP := by rw [hA]; exact Nat.mod_lt _ PP_pos
  obtain ⟨Bq, hBq⟩ : ∃ v, v = Y1 * Y2 % PP := ⟨_, rfl⟩
  have lBq : Bq < PP := by rw [hBq]; exact Nat.mod_lt _ PP_pos
  obtain ⟨C0, hC0⟩ : ∃ v, v = T1 * T2 % PP := ⟨_, rfl⟩
  have lC0 : C0 < PP := by rw [hC0]; exact Nat.mod_lt _ PP_pos
  obtain ⟨Cq, hCq⟩ : ∃ v, v = SL * C0 % PP := ⟨_, rfl⟩
  have lCq : Cq < PP := by rw [hCq]; exact Nat.mod_lt _ PP_pos
  obtain ⟨Dq, hDq⟩ : ∃ v, v = Z1 * Z2 % PP := ⟨_, rfl⟩
  have lDq : Dq < PP := by rw [hDq]; exact Nat.mod_lt _ PP_pos
  obtain ⟨E1, hE1⟩ : ∃ v, v = X1 * Y2 % PP := ⟨_, rfl⟩
  have lE1 : E1 < PP := by rw [hE1]; exact Nat.mod_lt _ PP_pos
  obtain ⟨E2, hE2⟩ : ∃ v, v = Y1 * X2 % PP := ⟨_, rfl⟩
  have lE2 : E2 < PP := by rw [hE2]; exact Nat.mod_lt _ PP_pos
  obtain ⟨E, hE⟩ : ∃ v, v = (E1 + E2) % PP := ⟨_, rfl⟩
  have lE : E < PP := by rw [hE]; exact Nat.mod_lt _ PP_pos
  obtain ⟨F, hF⟩ : ∃ v, v = (Dq + (PP - Cq)) % PP := ⟨_, rfl⟩
  have lF : F < PP := by rw [hF]; exact Nat.mod_lt _ PP_pos
  obtain ⟨G, hG⟩ : ∃ v, v = (Dq + Cq) % PP := ⟨_, rfl⟩
  have lG : G < PP := by rw [hG]; exact Nat.mod_lt _ PP_pos
  obtain ⟨Hq, hHq⟩ : ∃ v, v = (Bq + A) % PP := ⟨_, rfl⟩
  have lHq : Hq < PP := by rw [hHq]; exact Nat.mod_lt _ PP_pos
  obtain ⟨X3, hX3⟩ : ∃ v, v = E * F % PP := ⟨_, rfl⟩
  have lX3 : X3 < PP := by rw [hX3]; exact Nat.mod_lt _ PP_pos
  obtain ⟨Y3, hY3⟩ : ∃ v, v = G * Hq % PP := ⟨_, rfl⟩
  have lY3 : Y3 < PP := by rw [hY3]; exact Nat.mod_lt _ PP_pos
  obtain ⟨Z3, hZ3⟩ : ∃ v, v = F * G % PP := ⟨_, rfl⟩
  have lZ3 : Z3 < PP := by rw [hZ3]; exact Nat.mod_lt _ PP_pos
  obtain ⟨T3, hT3⟩ : ∃ v, v = E * Hq % PP := ⟨_, rfl⟩
  have lT3 : T3 < PP := by rw [hT3]; exact Nat.mod_lt _ PP_pos
  have hpd := radd_def X1 Y1 Z1 T1 X2 Y2 Z2 T2 A Bq C0 Cq Dq E1 E2 E F G Hq X3 Y3 Z3 T3 hA hBq hC0 hCq hDq hE1 hE2 hE hF hG hHq hX3 hY3 hZ3 hT3
  rw [hpd]
  have kA := fun w => rtimes_any X1 X2 x1 x2 w
  rw [← hA] at kA
  have kB := fun w => rtimes_any Y1 Y2 y1 y2 w
  rw [← hBq] at kB
  have kC0 := fun w => rtimes_any T1 T2 t1 t2 w
  rw [← hC0] at kC0
  have kC := fun w => rtimes_any SL C0 SL_lt lC0 w
  rw [← hCq] at kC
  have kD := fun w => rtimes_any Z1 Z2 z1 z2 w
  rw [← hDq] at kD
  have kE1 := fun w => rtimes_any X1 Y2 x1 y2 w
  rw [← hE1] at kE1
  have kE2 := fun w => rtimes_any Y1 X2 y1 x2 w
  rw [← hE2] at kE2
  have kE := fun w => rplus_any E1 E2 (PPr_22 _ lE1) (PPr_22 _ lE2) w
  rw [← hE] at kE
  have kF := fun w => rminus_any Dq Cq lDq lCq w
  rw [← hF] at kF
  have kG := fun w => rplus_any Dq Cq (PPr_22 _ lDq) (PPr_22 _ lCq) w
  rw [← hG] at kG
  have kH := fun w => rplus_any Bq A (PPr_22 _ lBq) (PPr_22 _ lA) w
  rw [← hHq] at kH
  have kX := fun w => rtimes_any E F lE lF w
  rw [← hX3] at kX
  have kY := fun w => rtimes_any G Hq lG lHq w
  rw [← hY3] at kY
  have kZ := fun w => rtimes_any F G lF lG w
  rw [← hZ3] at kZ
  have kT := fun w => rtimes_any E Hq lE lHq w
  rw [← hT3] at kT
  clear hpd hA lA hBq lBq hC0 lC0 hCq lCq hDq lDq hE1 lE1 hE2 lE2 hE lE hF lF hG lG hHq lHq hX3 lX3 hY3 lY3 hZ3 lZ3 hT3 lT3 x1 y1 z1 t1 x2 y2 z2 t2
  have KA := Lib.hid kA; clear kA
  have KB := Lib.hid kB; clear kB
  have KC0 := Lib.hid kC0; clear kC0
  have KC := Lib.hid kC; clear kC
  have KD := Lib.hid kD; clear kD
  have KE1 := Lib.hid kE1; clear kE1
  have KE2 := Lib.hid kE2; clear kE2
  have KE := Lib.hid kE; clear kE
  have KF := Lib.hid kF; clear kF
  have KG := Lib.hid kG; clear kG
  have KH := Lib.hid kH; clear kH
  have KX := Lib.hid kX; clear kX
  have KY := Lib.hid kY; clear kY
  have KZ := Lib.hid kZ; clear kZ
  have KT := Lib.hid kT; clear kT
  go_enter Try.func52, Try.ntmps52
  repeat ((fail_if_success (with_reducible (show wpList _ _ _ _ _ _))); go_step)
  refine wpList_step (fun K hK => ?_)
  go_simp
  (try go_bits)
  refine hK _ _ ?_
  clear hK K
  refine wpList_step (fun K hK => ?_)
  go_simp
  (try go_bits)
  refine hK _ _ ?_
  clear hK K
  refine wpList_step (fun K hK => ?_)
  go_simp
  (try go_bits)
  refine hK _ _ ?_
  clear hK K
  refine wpList_nil ?_
  have M2 := Lib.hid (((Has.new w  (rp X1 Y1 Z1 T1) 57).alloc (.cells (rp X2 Y2 Z2 T2) 57)).alloc (.cells Try.zeroCells57 57))
  have M3 := Lib.hid ((Has.new1 w (.cells (rp X1 Y1 Z1 T1) 57) (rp X2 Y2 Z2 T2) 57).alloc (.cells Try.zeroCells57 57))
  have M4 := Lib.hid (HasN.new2 w (.cells (rp X1 Y1 Z1 T1) 57) (.cells (rp X2 Y2 Z2 T2) 57) Try.zeroCells57 57 88 (by kernel_rfl))
  have HB := Lib.hid (below_3 w (.cells (rp X1 Y1 Z1 T1) 57) (.cells (rp X2 Y2 Z2 T2) 57) (.cells Try.zeroCells57 57))
  obtain ⟨yw1, hwyw1⟩ : ∃ ww, ww = (((w.alloc (.cells (rp X1 Y1 Z1 T1) 57)).alloc (.cells (rp X2 Y2 Z2 T2) 57)).alloc (.cells Try.zeroCells57 57)) := ⟨_, rfl⟩
  rw [← hwyw1] at M2 M3 M4 HB ⊢
  clear hwyw1
  repeat ((fail_if_success (with_reducible (show wpList _ _ _ _ _ _))); go_step)
  refine wpList_step (fun K hK => ?_)
  go_simp
  (try go_bits)
  refine hK _ _ ?_
  clear hK K
  refine wpList_loadm (by rfl) 40 _ rfl (w.heap.size) 0 rfl (r22l X1) (r22 X1) rfl (rp_x M2.out) _ Try.underlying40 rfl (by rw [r22l_len]; kernel_rfl) 14 rfl ?_
  (try simp only [Act.put, sI, sS, sZ])
  refine wpList_step (fun K hK => ?_)
  go_simp
  (try go_bits)
  refine hK _ _ ?_
  clear hK K
  refine wpList_loadm (by rfl) 40 _ rfl (w.heap.size + 1) 0 rfl (r22l X2) (r22 X2) rfl (rp_x M3.out) _ Try.underlying40 rfl (by rw [r22l_len]; kernel_rfl) 16 rfl ?_
  (try simp only [Act.put, sI, sS, sZ])
  refine wpList_call (by rfl) rfl rfl (by rfl) ent32 (by rfl) (KA.out _) 17 rfl ?_
  rintro e uw1 ⟨rfl, hb⟩
  replace M2 := Lib.hid (M2.out.call hb)
  replace M3 := Lib.hid (M3.out.call hb)
  replace M4 := Lib.hid (M4.out.call hb)
  replace HB := Lib.hid (held_next HB.out hb)
  refine ⟨_, rfl, ?_⟩
  clear hb
  (try simp only [Act.put, sI, sS, sZ])
  refine wpList_alloc (by rfl) 40 rfl _ al40 5 rfl ?_
  intro yw2 hw2
  have hlt3 := M2.out.lt
  have hlt4 := M3.out.lt
  have hlt5 := M4.out.lt
  have hsz := HB.out.size
  have kq := M2.out.alloc (.cells z40 40); rw [← hw2] at kq; clear M2; have M2 := Lib.hid kq; clear kq
  have kq := M3.out.alloc (.cells z40 40); rw [← hw2] at kq; clear M3; have M3 := Lib.hid kq; clear kq
  have kq := M4.out.alloc (.cells z40 40); rw [← hw2] at kq; clear M4; have M4 := Lib.hid kq; clear kq
  have kq := HasN.new uw1 z40 40 22 (by kernel_rfl); rw [← hw2] at kq; have M5 := Lib.hid kq; clear kq
  have kq := HB.out.alloc hsz (.cells z40 40); rw [← hw2] at kq; clear HB; have HB := Lib.hid kq; clear kq hw2
  (try simp only [Act.put, sI, sS, sZ])
  first | (obtain ⟨Zq, hZ, mZ⟩ := M5.out) | (obtain ⟨Zq, hZ, mZ⟩ := M5.out.toN (r22_size ..))
  refine wpList_store2 (by rfl) 40 _ _ rfl rfl (uw1.heap.size) (r22 A) rfl rfl 40 Zq mZ (by rw [r22_size]; kernel_rfl) (hZ.trans (r22_size ..).symm) (row_one _ _ _) ?_
  intro yw6 hw2
  have kq := M2.out.setRow_other (uw1.heap.size) (r22 A) (by omega); rw [← hw2] at kq; clear M2; have M2 := Lib.hid kq; clear kq
  have kq := M3.out.setRow_other (uw1.heap.size) (r22 A) (by omega); rw [← hw2] at kq; clear M3; have M3 := Lib.hid kq; clear kq
  have kq := M4.out.setRow_other (uw1.heap.size) (r22 A) (by omega); rw [← hw2] at kq; clear M4; have M4 := Lib.hid kq; clear kq
  have kq := mZ.setRow (r22 A); rw [← hw2] at kq; clear M5; have M5 := Lib.hid kq; clear kq mZ hZ
  have kq := below_setRow HB.out (uw1.heap.size) (r22 A) (by omega); rw [← hw2] at kq; clear HB; have HB := Lib.hid kq; clear kq hw2
  refine wpList_nil ?_
  repeat ((fail_if_success (with_reducible (show wpList _ _ _ _ _ _))); go_step)
  refine wpList_step (fun K hK => ?_)
  go_simp
  (try go_bits)
  refine hK _ _ ?_
  clear hK K
  refine wpList_loadm (by rfl) 40 _ rfl (w.heap.size) 22 rfl (r22l Y1) (r22 Y1) rfl (rp_y M2.out) _ Try.underlying40 rfl (by rw [r22l_len]; kernel_rfl) 19 rfl ?_
  (try simp only [Act.put, sI, sS, sZ])
  refine wpList_step (fun K hK => ?_)
  go_simp
  (try go_bits)
  refine hK _ _ ?_
  clear hK K
  refine wpList_loadm (by rfl) 40 _ rfl (w.heap.size + 1) 22 rfl (r22l Y2) (r22 Y2) rfl (rp_y M3.out) _ Try.underlying40 rfl (by rw [r22l_len]; kernel_rfl) 21 rfl ?_
  (try simp only [Act.put, sI, sS, sZ])
  refine wpList_call (by rfl) rfl rfl (by rfl) ent32 (by rfl) (KB.out _) 22 rfl ?_
  rintro e uw2 ⟨rfl, hb⟩
  replace M2 := Lib.hid (M2.out.call hb)
  replace M3 := Lib.hid (M3.out.call hb)
  replace M4 := Lib.hid (M4.out.call hb)
  replace M5 := Lib.hid (M5.out.call hb)
  replace HB := Lib.hid (held_next HB.out hb)
  refine ⟨_, rfl, ?_⟩
  clear hb
  (try simp only [Act.put, sI, sS, sZ])
  refine wpList_alloc (by rfl) 40 rfl _ al40 6 rfl ?_
  intro yw7 hw2
  have hlt8 := M2.out.lt
  have hlt9 := M3.out.lt
  have hlt10 := M4.out.lt
  have hlt11 := M5.out.lt
  have hsz := HB.out.size
  have kq := M2.out.alloc (.cells z40 40); rw [← hw2] at kq; clear M2; have M2 := Lib.hid kq; clear kq
  have kq := M3.out.alloc (.cells z40 40); rw [← hw2] at kq; clear M3; have M3 := Lib.hid kq; clear kq
  have kq := M4.out.alloc (.cells z40 40); rw [← hw2] at kq; clear M4; have M4 := Lib.hid kq; clear kq
  have kq := M5.out.alloc (.cells z40 40); rw [← hw2] at kq; clear M5; have M5 := Lib.hid kq; clear kq
  have kq := HasN.new uw2 z40 40 22 (by kernel_rfl); rw [← hw2] at kq; have M6 := Lib.hid kq; clear kq
  have kq := HB.out.alloc hsz (.cells z40 40); rw [← hw2] at kq; clear HB; have HB := Lib.hid kq; clear kq hw2
  (try simp only [Act.put, sI, sS, sZ])
  first | (obtain ⟨Zq, hZ, mZ⟩ := M6.out) | (obtain ⟨Zq, hZ, mZ⟩ := M6.out.toN (r22_size ..))
  refine wpList_store2 (by rfl) 40 _ _ rfl rfl (uw2.heap.size) (r22 Bq) rfl rfl 40 Zq mZ (by rw [r22_size]; kernel_rfl) (hZ.trans (r22_size ..).symm) (row_one _ _ _) ?_
  intro yw12 hw2
  have kq := M2.out.setRow_other (uw2.heap.size) (r22 Bq) (by omega); rw [← hw2] at kq; clear M2; have M2 := Lib.hid kq; clear kq
  have kq := M3.out.setRow_other (uw2.heap.size) (r22 Bq) (by omega); rw [← hw2] at kq; clear M3; have M3 := Lib.hid kq; clear kq
  have kq := M4.out.setRow_other (uw2.heap.size) (r22 Bq) (by omega); rw [← hw2] at kq; clear M4; have M4 := Lib.hid kq; clear kq
  have kq := M5.out.setRow_other (uw2.heap.size) (r22 Bq) (by omega); rw [← hw2] at kq; clear M5; have M5 := Lib.hid kq; clear kq
  have kq := mZ.setRow (r22 Bq); rw [← hw2] at kq; clear M6; have M6 := Lib.hid kq; clear kq mZ hZ
  have kq := below_setRow HB.out (uw2.heap.size) (r22 Bq) (by omega); rw [← hw2] at kq; clear HB; have HB := Lib.hid kq; clear kq hw2
  refine wpList_nil ?_
  repeat ((fail_if_success (with_reducible (show wpList _ _ _ _ _ _))); go_step)
  refine wp_region_meet (α := Nat) (fun W0 x w' => W0.heap.size ≤ x ∧ Has w' x (r22 Cq) 40 ∧ Below W0.heap.size W0 w') (fun ac x => ((((((((ac.put (some 23) (.agg (r22 SL))).put (some 24) (.pointer (some ⟨w.heap.size, 66, none⟩))).put (some 25) (.agg (r22 T1))).put (some 26) (.pointer (some ⟨w.heap.size + 1, 66, none⟩))).put (some 27) (.agg (r22 T2))).put (some 28) (.agg (r22 C0))).put (some 29) (.agg (r22 Cq))).put (some 7) (.pointer (some ⟨x, 0, none⟩)))) ?_ ?_
  · intro Q' hQ'
    refine wp_region_noPanic ?_
    refine wp_region_go 99 9 #[false, false, false, false, false, false, false, false, false] (by kernel_rfl) rfl rfl ?_
    intro W13 hW13
    rw [← hW13] at hQ'
    simp only [Act.put, List.setIfInBounds_toArray, List.set_cons_succ, List.set_cons_zero] at hQ'
    have HQ := Lib.hid hQ'; clear hQ'
    have kq := M2.out; rw [← hW13] at kq; clear M2; have M2 := Lib.hid kq; clear kq
    have kq := M3.out; rw [← hW13] at kq; clear M3; have M3 := Lib.hid kq; clear kq
    have kq := M4.out; rw [← hW13] at kq; clear M4; have M4 := Lib.hid kq; clear kq
    have kq := M5.out; rw [← hW13] at kq; clear M5; have M5 := Lib.hid kq; clear kq
    have kq := M6.out; rw [← hW13] at kq; clear M6; have M6 := Lib.hid kq; clear kq
    have kq := HB.out; rw [← hW13] at kq; clear HB; have HB := Lib.hid kq; clear kq
    clear hW13
    refine go_take2 1 24 #[false, true, false, false, false, false, false, false, false] (v := ?uv1) rfl rfl rfl (by kernel_rfl) (Or.inl ⟨by rfl, ?uy1⟩) ((below_dr W13)) ?urest1
    case uy1 => (intro _ _; go_simp; try with_reducible rfl)
    (try simp only [sI, sS, sZ])
    refine go_take2 2 25 #[false, true, true, false, false, false, false, false, false] rfl rfl rfl (by kernel_rfl) (yieldsIf_loadm (by rfl) 40 _ rfl (w.heap.size) 66 rfl (r22l T1) (r22 T1) rfl (fun _ h => range_below (rp_t M2.out) h M2.out.lt) _ Try.underlying40 rfl (by rw [r22l_len]; kernel_rfl)) ((below_dr W13)) ?_
    (try simp only [sI, sS, sZ])
    refine go_take2 3 26 #[false, true, true, true, false, false, false, false, false] (v := ?uv2) rfl rfl rfl (by kernel_rfl) (Or.inl ⟨by rfl, ?uy2⟩) ((below_dr W13)) ?urest2
    case uy2 => (intro _ _; go_simp; try with_reducible rfl)
    (try simp only [sI, sS, sZ])
    refine go_take2 4 27 #[false, true, true, true, true, false, false, false, false] rfl rfl rfl (by kernel_rfl) (yieldsIf_loadm (by rfl) 40 _ rfl (w.heap.size + 1) 66 rfl (r22l T2) (r22 T2) rfl (fun _ h => range_below (rp_t M3.out) h M3.out.lt) _ Try.underlying40 rfl (by rw [r22l_len]; kernel_rfl)) ((below_dr W13)) ?_
    (try simp only [sI, sS, sZ])
    refine wpBut_r2 (i := 0) (j := 7) (by kernel_rfl) ?_ ?_
    refine go_call 0 23 #[true, true, true, true, true, false, false, false, false] rfl rfl rfl (by rfl) rfl rfl (by rfl) ent89 (by rfl) (rslope_any _) ?_
    rintro e wW131 ⟨rfl, hb⟩
    have hkW131 := held_next (below_dr W13) hb
    refine ⟨_, rfl, fun _ => hkW131, ?_⟩
    clear hb
    (try simp only [sI, sS, sZ])
    refine wpBut_r2 (i := 5) (j := 7) (by kernel_rfl) ?_ ?_
    refine go_call 5 28 #[true, true, true, true, true, true, false, false, false] rfl rfl rfl (by rfl) rfl rfl (by rfl) ent32 (by rfl) (KC0.out _) ?_
    rintro e wW132 ⟨rfl, hb⟩
    have hkW132 := held_next hkW131 hb
    refine ⟨_, rfl, fun _ => hkW132, ?_⟩
    clear hb
    (try simp only [sI, sS, sZ])
    refine wpBut_r2 (i := 6) (j := 7) (by kernel_rfl) ?_ ?_
    refine go_call 6 29 #[true, true, true, true, true, true, true, false, false] rfl rfl rfl (by rfl) rfl rfl (by rfl) ent32 (by rfl) (KC.out _) ?_
    rintro e wW133 ⟨rfl, hb⟩
    have hkW133 := held_next hkW132 hb
    refine ⟨_, rfl, fun _ => hkW133, ?_⟩
    clear hb
    (try simp only [sI, sS, sZ])
    refine wpBut_r1 (i := 7) (by kernel_rfl) ?_
    refine go_alloc 7 7 #[true, true, true, true, true, true, true, true, false] rfl rfl rfl (by rfl) 40 rfl _ al40 ?_
    intro wW134 hw2
    have hkW134 := (hkW133).alloc (hkW133).size (.cells z40 40)
    rw [← hw2] at hkW134
    have MQ := HasN.new (wW133) z40 40 22 (by kernel_rfl); rw [← hw2] at MQ; have MA7 := Lib.hid MQ; clear MQ
    have HA7 := Lib.hid (show W13.heap.size ≤ _ from (hkW133).size)
    clear hw2
    refine ⟨fun _ => hkW134, ?_⟩
    (try simp only [sI, sS, sZ])
    refine wpBut_r1 (i := 8) (by kernel_rfl) ?_
    obtain ⟨Zq, hZ, mZ⟩ := MA7.out
    refine go_store2 8 #[true, true, true, true, true, true, true, true, true] rfl rfl rfl (by rfl) 40 _ _ rfl _ _ rfl rfl 40 Zq mZ (by rw [r22_size]; kernel_rfl) (hZ.trans (r22_size ..).symm) (row_one _ _ _) ?_
    intro wW135 hw2
    have hkW135 := below_setRow (hkW134) _ (r22 Cq) HA7.out
    rw [← hw2] at hkW135
    clear MA7
    have MQ := mZ.setRow (r22 Cq); rw [← hw2] at MQ; have MA7 := Lib.hid MQ; clear MQ mZ hZ hw2
    refine ⟨fun _ => hkW135, ?_⟩
    (try simp only [sI, sS, sZ])
    exact wpBut_done (by kernel_rfl) (NoPanic.normal (HQ.out (_) _ ⟨HA7.out, MA7.out, (hkW135)⟩))
    refine go_alloc 7 7 #[true, true, true, true, true, true, false, true, false] rfl rfl rfl (by rfl) 40 rfl _ al40 ?_
    intro wW133 hw2
    have hkW133 := (hkW132).alloc (hkW132).size (.cells z40 40)
    rw [← hw2] at hkW133
    have MQ := HasN.new (wW132) z40 40 22 (by kernel_rfl); rw [← hw2] at MQ; have MA7 := Lib.hid MQ; clear MQ
    have HA7 := Lib.hid (show W13.heap.size ≤ _ from (hkW132).size)
    clear hw2
    refine ⟨fun _ => hkW133, ?_⟩
    (try simp only [sI, sS, sZ])
    refine wpBut_r1 (i := 6) (by kernel_rfl) ?_
    refine go_call 6 29 #[true, true, true, true, true, true, true, true, false] rfl rfl rfl (by rfl) rfl rfl (by rfl) ent32 (by rfl) (KC.out _) ?_
    rintro e wW134 ⟨rfl, hb⟩
    have hkW134 := held_next hkW133 hb
    have MQ7 := Lib.hid (MA7.out.call hb); clear MA7
    have MA7 := MQ7; clear MQ7
    refine ⟨_, rfl, fun _ => hkW134, ?_⟩
    clear hb
    (try simp only [sI, sS, sZ])
    refine wpBut_r1 (i := 8) (by kernel_rfl) ?_
    obtain ⟨Zq, hZ, mZ⟩ := MA7.out
    refine go_store2 8 #[true, true, true, true, true, true, true, true, true] rfl rfl rfl (by rfl) 40 _ _ rfl _ _ rfl rfl 40 Zq mZ (by rw [r22_size]; kernel_rfl) (hZ.trans (r22_size ..).symm) (row_one _ _ _) ?_
    intro wW135 hw2
    have hkW135 := below_setRow (hkW134) _ (r22 Cq) HA7.out
    rw [← hw2] at hkW135
    clear MA7
    have MQ := mZ.setRow (r22 Cq); rw [← hw2] at MQ; have MA7 := Lib.hid MQ; clear MQ mZ hZ hw2
    refine ⟨fun _ => hkW135, ?_⟩
    (try simp only [sI, sS, sZ])
    exact wpBut_done (by kernel_rfl) (NoPanic.normal (HQ.out (_) _ ⟨HA7.out, MA7.out, (hkW135)⟩))
    refine go_alloc 7 7 #[true, true, true, true, true, false, false, true, false] rfl rfl rfl (by rfl) 40 rfl _ al40 ?_
    intro wW132 hw2
    have hkW132 := (hkW131).alloc (hkW131).size (.cells z40 40)
    rw [← hw2] at hkW132
    have MQ := HasN.new (wW131) z40 40 22 (by kernel_rfl); rw [← hw2] at MQ; have MA7 := Lib.hid MQ; clear MQ
    have HA7 := Lib.hid (show W13.heap.size ≤ _ from (hkW131).size)
    clear hw2
    refine ⟨fun _ => hkW132, ?_⟩
    (try simp only [sI, sS, sZ])
    refine wpBut_r1 (i := 5) (by kernel_rfl) ?_
    refine go_call 5 28 #[true, true, true, true, true, true, false, true, false] rfl rfl rfl (by rfl) rfl rfl (by rfl) ent32 (by rfl) (KC0.out _) ?_
    rintro e wW133 ⟨rfl, hb⟩
    have hkW133 := held_next hkW132 hb
    have MQ7 := Lib.hid (MA7.out.call hb); clear MA7
    have MA7 := MQ7; clear MQ7
    refine ⟨_, rfl, fun _ => hkW133, ?_⟩
    clear hb
    (try simp only [sI, sS, sZ])
    refine wpBut_r1 (i := 6) (by kernel_rfl) ?_
    refine go_call 6 29 #[true, true, true, true, true, true, true, true, false] rfl rfl rfl (by rfl) rfl rfl (by rfl) ent32 (by rfl) (KC.out _) ?_
    rintro e wW134 ⟨rfl, hb⟩
    have hkW134 := held_next hkW133 hb
    have MQ7 := Lib.hid (MA7.out.call hb); clear MA7
    have MA7 := MQ7; clear MQ7
    refine ⟨_, rfl, fun _ => hkW134, ?_⟩
    clear hb
    (try simp only [sI, sS, sZ])
    refine wpBut_r1 (i := 8) (by kernel_rfl) ?_
    obtain ⟨Zq, hZ, mZ⟩ := MA7.out
    refine go_store2 8 #[true, true, true, true, true, true, true, true, true] rfl rfl rfl (by rfl) 40 _ _ rfl _ _ rfl rfl 40 Zq mZ (by rw [r22_size]; kernel_rfl) (hZ.trans (r22_size ..).symm) (row_one _ _ _) ?_
    intro wW135 hw2
    have hkW135 := below_setRow (hkW134) _ (r22 Cq) HA7.out
    rw [← hw2] at hkW135
    clear MA7
    have MQ := mZ.setRow (r22 Cq); rw [← hw2] at MQ; have MA7 := Lib.hid MQ; clear MQ mZ hZ hw2
    refine ⟨fun _ => hkW135, ?_⟩
    (try simp only [sI, sS, sZ])
    exact wpBut_done (by kernel_rfl) (NoPanic.normal (HQ.out (_) _ ⟨HA7.out, MA7.out, (hkW135)⟩))
    refine go_alloc 7 7 #[false, true, true, true, true, false, false, true, false] rfl rfl rfl (by rfl) 40 rfl _ al40 ?_
    intro wW131 hw2
    have hkW131 := ((below_dr W13)).alloc ((below_dr W13)).size (.cells z40 40)
    rw [← hw2] at hkW131
    have MQ := HasN.new (W13.drew) z40 40 22 (by kernel_rfl); rw [← hw2] at MQ; have MA7 := Lib.hid MQ; clear MQ
    have HA7 := Lib.hid (show W13.heap.size ≤ _ from ((below_dr W13)).size)
    clear hw2
    refine ⟨fun _ => hkW131, ?_⟩
    (try simp only [sI, sS, sZ])
    refine wpBut_r1 (i := 0) (by kernel_rfl) ?_
    refine go_call 0 23 #[true, true, true, true, true, false, false, true, false] rfl rfl rfl (by rfl) rfl rfl (by rfl) ent89 (by rfl) (rslope_any _) ?_
    rintro e wW132 ⟨rfl, hb⟩
    have hkW132 := held_next hkW131 hb
    have MQ7 := Lib.hid (MA7.out.call hb); clear MA7
    have MA7 := MQ7; clear MQ7
    refine ⟨_, rfl, fun _ => hkW132, ?_⟩
    clear hb
    (try simp only [sI, sS, sZ])
    refine wpBut_r1 (i := 5) (by kernel_rfl) ?_
    refine go_call 5 28 #[true, true, true, true, true, true, false, true, false] rfl rfl rfl (by rfl) rfl rfl (by rfl) ent32 (by rfl) (KC0.out _) ?_
    rintro e wW133 ⟨rfl, hb⟩
    have hkW133 := held_next hkW132 hb
    have MQ7 := Lib.hid (MA7.out.call hb); clear MA7
    have MA7 := MQ7; clear MQ7
    refine ⟨_, rfl, fun _ => hkW133, ?_⟩
    clear hb
    (try simp only [sI, sS, sZ])
    refine wpBut_r1 (i := 6) (by kernel_rfl) ?_
    refine go_call 6 29 #[true, true, true, true, true, true, true, true, false] rfl rfl rfl (by rfl) rfl rfl (by rfl) ent32 (by rfl) (KC.out _) ?_
    rintro e wW134 ⟨rfl, hb⟩
    have hkW134 := held_next hkW133 hb
    have MQ7 := Lib.hid (MA7.out.call hb); clear MA7
    have MA7 := MQ7; clear MQ7
    refine ⟨_, rfl, fun _ => hkW134, ?_⟩
    clear hb
    (try simp only [sI, sS, sZ])
    refine wpBut_r1 (i := 8) (by kernel_rfl) ?_
    obtain ⟨Zq, hZ, mZ⟩ := MA7.out
    refine go_store2 8 #[true, true, true, true, true, true, true, true, true] rfl rfl rfl (by rfl) 40 _ _ rfl _ _ rfl rfl 40 Zq mZ (by rw [r22_size]; kernel_rfl) (hZ.trans (r22_size ..).symm) (row_one _ _ _) ?_
    intro wW135 hw2
    have hkW135 := below_setRow (hkW134) _ (r22 Cq) HA7.out
    rw [← hw2] at hkW135
    clear MA7
    have MQ := mZ.setRow (r22 Cq); rw [← hw2] at MQ; have MA7 := Lib.hid MQ; clear MQ mZ hZ hw2
    refine ⟨fun _ => hkW135, ?_⟩
    (try simp only [sI, sS, sZ])
    exact wpBut_done (by kernel_rfl) (NoPanic.normal (HQ.out (_) _ ⟨HA7.out, MA7.out, (hkW135)⟩))
  · rintro W13 B7 vw13 hW13 ⟨hBq0, mBq0, hbw⟩
    simp only [Act.put, List.setIfInBounds_toArray, List.set_cons_succ, List.set_cons_zero] at  hBq0  mBq0 ⊢
    have kq := M2.out; rw [← hW13] at kq; clear M2; have M2 := Lib.hid kq; clear kq
    have kq := M3.out; rw [← hW13] at kq; clear M3; have M3 := Lib.hid kq; clear kq
    have kq := M4.out; rw [← hW13] at kq; clear M4; have M4 := Lib.hid kq; clear kq
    have kq := M5.out; rw [← hW13] at kq; clear M5; have M5 := Lib.hid kq; clear kq
    have kq := M6.out; rw [← hW13] at kq; clear M6; have M6 := Lib.hid kq; clear kq
    have kq := HB.out; rw [← hW13] at kq; clear HB; have HB := Lib.hid kq; clear kq
    clear hW13
    have hltM2_13 := M2.out.lt
    have hltM3_13 := M3.out.lt
    have hltM4_13 := M4.out.lt
    have hltM5_13 := M5.out.lt
    have hltM6_13 := M6.out.lt
    replace M2 := Lib.hid (M2.out.call hbw)
    replace M3 := Lib.hid (M3.out.call hbw)
    replace M4 := Lib.hid (M4.out.call hbw)
    replace M5 := Lib.hid (M5.out.call hbw)
    replace M6 := Lib.hid (M6.out.call hbw)
    replace HB := Lib.hid (held_next HB.out hbw)
    have M7 := Lib.hid mBq0; clear mBq0
    clear hbw
    repeat ((fail_if_success (with_reducible (show wpList _ _ _ _ _ _))); go_step)
    refine wpList_step (fun K hK => ?_)
    go_simp
    (try go_bits)
    refine hK _ _ ?_
    clear hK K
    refine wpList_loadm (by rfl) 40 _ rfl (w.heap.size) 44 rfl (r22l Z1) (r22 Z1) rfl (rp_z M2.out) _ Try.underlying40 rfl (by rw [r22l_len]; kernel_rfl) 31 rfl ?_
    (try simp only [Act.put, sI, sS, sZ])
    refine wpList_step (fun K hK => ?_)
    go_simp
    (try go_bits)
    refine hK _ _ ?_
    clear hK K
    refine wpList_loadm (by rfl) 40 _ rfl (w.heap.size + 1) 44 rfl (r22l Z2) (r22 Z2) rfl (rp_z M3.out) _ Try.underlying40 rfl (by rw [r22l_len]; kernel_rfl) 33 rfl ?_
    (try simp only [Act.put, sI, sS, sZ])
    refine wpList_call (by rfl) rfl rfl (by rfl) ent32 (by rfl) (KD.out _) 34 rfl ?_
    rintro e uw3 ⟨rfl, hb⟩
    replace M2 := Lib.hid (M2.out.call hb)
    replace M3 := Lib.hid (M3.out.call hb)
    replace M4 := Lib.hid (M4.out.call hb)
    replace M5 := Lib.hid (M5.out.call hb)
    replace M6 := Lib.hid (M6.out.call hb)
    replace M7 := Lib.hid (M7.out.call hb)
    replace HB := Lib.hid (held_next HB.out hb)
    refine ⟨_, rfl, ?_⟩
    clear hb
    (try simp only [Act.put, sI, sS, sZ])
    refine wpList_alloc (by rfl) 40 rfl _ al40 8 rfl ?_
    intro yw14 hw2
    have hlt15 := M2.out.lt
    have hlt16 := M3.out.lt
    have hlt17 := M4.out.lt
    have hlt18 := M5.out.lt
    have hlt19 := M6.out.lt
    have hlt20 := M7.out.lt
    have hsz := HB.out.size
    have kq := M2.out.alloc (.cells z40 40); rw [← hw2] at kq; clear M2; have M2 := Lib.hid kq; clear kq
    have kq := M3.out.alloc (.cells z40 40); rw [← hw2] at kq; clear M3; have M3 := Lib.hid kq; clear kq
    have kq := M4.out.alloc (.cells z40 40); rw [← hw2] at kq; clear M4; have M4 := Lib.hid kq; clear kq
    have kq := M5.out.alloc (.cells z40 40); rw [← hw2] at kq; clear M5; have M5 := Lib.hid kq; clear kq
    have kq := M6.out.alloc (.cells z40 40); rw [← hw2] at kq; clear M6; have M6 := Lib.hid kq; clear kq
    have kq := M7.out.alloc (.cells z40 40); rw [← hw2] at kq; clear M7; have M7 := Lib.hid kq; clear kq
    have kq := HasN.new uw3 z40 40 22 (by kernel_rfl); rw [← hw2] at kq; have M8 := Lib.hid kq; clear kq
    have kq := HB.out.alloc hsz (.cells z40 40); rw [← hw2] at kq; clear HB; have HB := Lib.hid kq; clear kq hw2
    (try simp only [Act.put, sI, sS, sZ])
    first | (obtain ⟨Zq, hZ, mZ⟩ := M8.out) | (obtain ⟨Zq, hZ, mZ⟩ := M8.out.toN (r22_size ..))
    refine wpList_store2 (by rfl) 40 _ _ rfl rfl (uw3.heap.size) (r22 Dq) rfl rfl 40 Zq mZ (by rw [r22_size]; kernel_rfl) (hZ.trans (r22_size ..).symm) (row_one _ _ _) ?_
    intro yw21 hw2
    have kq := M2.out.setRow_other (uw3.heap.size) (r22 Dq) (by omega); rw [← hw2] at kq; clear M2; have M2 := Lib.hid kq; clear kq
    have kq := M3.out.setRow_other (uw3.heap.size) (r22 Dq) (by omega); rw [← hw2] at kq; clear M3; have M3 := Lib.hid kq; clear kq
    have kq := M4.out.setRow_other (uw3.heap.size) (r22 Dq) (by omega); rw [← hw2] at kq; clear M4; have M4 := Lib.hid kq; clear kq
    have kq := M5.out.setRow_other (uw3.heap.size) (r22 Dq) (by omega); rw [← hw2] at kq; clear M5; have M5 := Lib.hid kq; clear kq
    have kq := M6.out.setRow_other (uw3.heap.size) (r22 Dq) (by omega); rw [← hw2] at kq; clear M6; have M6 := Lib.hid kq; clear kq
    have kq := M7.out.setRow_other (uw3.heap.size) (r22 Dq) (by omega); rw [← hw2] at kq; clear M7; have M7 := Lib.hid kq; clear kq
    have kq := mZ.setRow (r22 Dq); rw [← hw2] at kq; clear M8; have M8 := Lib.hid kq; clear kq mZ hZ
    have kq := below_setRow HB.out (uw3.heap.size) (r22 Dq) (by omega); rw [← hw2] at kq; clear HB; have HB := Lib.hid kq; clear kq hw2
    refine wpList_nil ?_
    repeat ((fail_if_success (with_reducible (show wpList _ _ _ _ _ _))); go_step)
    refine wp_region_meet (α := Nat) (fun W0 x w' => W0.heap.size ≤ x ∧ Has w' x (r22 E) 40 ∧ Below W0.heap.size W0 w') (fun ac x => ((((((((((((ac.put (some 35) (.pointer (some ⟨w.heap.size, 0, none⟩))).put (some 36) (.agg (r22 X1))).put (some 37) (.pointer (some ⟨w.heap.size + 1, 22, none⟩))).put (some 38) (.agg (r22 Y2))).put (some 39) (.agg (r22 E1))).put (some 40) (.pointer (some ⟨w.heap.size, 22, none⟩))).put (some 41) (.agg (r22 Y1))).put (some 42) (.pointer (some ⟨w.heap.size + 1, 0, none⟩))).put (some 43) (.agg (r22 X2))).put (some 44) (.agg (r22 E2))).put (some 45) (.agg (r22 E))).put (some 9) (.pointer (some ⟨x, 0, none⟩)))) ?_ ?_
    · intro Q' hQ'
      refine wp_region_noPanic ?_
      refine wp_region_go 99 13 #[false, false, false, false, false, false, false, false, false, false, false, false, false] (by kernel_rfl) rfl rfl ?_
      intro W22 hW22
      rw [← hW22] at hQ'
      simp only [Act.put, List.setIfInBounds_toArray, List.set_cons_succ, List.set_cons_zero] at hQ'
      have HQ := Lib.hid hQ'; clear hQ'
      have kq := M2.out; rw [← hW22] at kq; clear M2; have M2 := Lib.hid kq; clear kq
      have kq := M3.out; rw [← hW22] at kq; clear M3; have M3 := Lib.hid kq; clear kq
      have kq := M4.out; rw [← hW22] at kq; clear M4; have M4 := Lib.hid kq; clear kq
      have kq := M5.out; rw [← hW22] at kq; clear M5; have M5 := Lib.hid kq; clear kq
      have kq := M6.out; rw [← hW22] at kq; clear M6; have M6 := Lib.hid kq; clear kq
      have kq := M7.out; rw [← hW22] at kq; clear M7; have M7 := Lib.hid kq; clear kq
      have kq := M8.out; rw [← hW22] at kq; clear M8; have M8 := Lib.hid kq; clear kq
      have kq := HB.out; rw [← hW22] at kq; clear HB; have HB := Lib.hid kq; clear kq
      clear hW22
      refine go_take2 0 35 #[true, false, false, false, false, false, false, false, false, false, false, false, false] (v := ?uv3) rfl rfl rfl (by kernel_rfl) (Or.inl ⟨by rfl, ?uy3⟩) ((below_dr W22)) ?urest3
      case uy3 => (intro _ _; go_simp; try with_reducible rfl)
      (try simp only [sI, sS, sZ])
      refine go_take2 1 36 #[true, true, false, false, false, false, false, false, false, false, false, false, false] rfl rfl rfl (by kernel_rfl) (yieldsIf_loadm (by rfl) 40 _ rfl (w.heap.size) 0 rfl (r22l X1) (r22 X1) rfl (fun _ h => range_below (rp_x M2.out) h M2.out.lt) _ Try.underlying40 rfl (by rw [r22l_len]; kernel_rfl)) ((below_dr W22)) ?_
      (try simp only [sI, sS, sZ])
      refine go_take2 2 37 #[true, true, true, false, false, false, false, false, false, false, false, false, false] (v := ?uv4) rfl rfl rfl (by kernel_rfl) (Or.inl ⟨by rfl, ?uy4⟩) ((below_dr W22)) ?urest4
      case uy4 => (intro _ _; go_simp; try with_reducible rfl)
      (try simp only [sI, sS, sZ])
      refine go_take2 3 38 #[true, true, true, true, false, false, false, false, false, false, false, false, false] rfl rfl rfl (by kernel_rfl) (yieldsIf_loadm (by rfl) 40 _ rfl (w.heap.size + 1) 22 rfl (r22l Y2) (r22 Y2) rfl (fun _ h => range_below (rp_y M3.out) h M3.out.lt) _ Try.underlying40 rfl (by rw [r22l_len]; kernel_rfl)) ((below_dr W22)) ?_
      (try simp only [sI, sS, sZ])
      refine go_take2 5 40 #[true, true, true, true, false, true, false, false, false, false, false, false, false] (v := ?uv5) rfl rfl rfl (by kernel_rfl) (Or.inl ⟨by rfl, ?uy5⟩) ((below_dr W22)) ?urest5
      case uy5 => (intro _ _; go_simp; try with_reducible rfl)
      (try simp only [sI, sS, sZ])
      refine go_take2 6 41 #[true, true, true, true, false, true, true, false, false, false, false, false, false] rfl rfl rfl (by kernel_rfl) (yieldsIf_loadm (by rfl) 40 _ rfl (w.heap.size) 22 rfl (r22l Y1) (r22 Y1) rfl (fun _ h => range_below (rp_y M2.out) h M2.out.lt) _ Try.underlying40 rfl (by rw [r22l_len]; kernel_rfl)) ((below_dr W22)) ?_
      (try simp only [sI, sS, sZ])
      refine go_take2 7 42 #[true, true, true, true, false, true, true, true, false, false, false, false, false] (v := ?uv6) rfl rfl rfl (by kernel_rfl) (Or.inl ⟨by rfl, ?uy6⟩) ((below_dr W22)) ?urest6
      case uy6 => (intro _ _; go_simp; try with_reducible rfl)
      (try simp only [sI, sS, sZ])
      refine go_take2 8 43 #[true, true, true, true, false, true, true, true, true, false, false, false, false] rfl rfl rfl (by kernel_rfl) (yieldsIf_loadm (by rfl) 40 _ rfl (w.heap.size + 1) 0 rfl (r22l X2) (r22 X2) rfl (fun _ h => range_below (rp_x M3.out) h M3.out.lt) _ Try.underlying40 rfl (by rw [r22l_len]; kernel_rfl)) ((below_dr W22)) ?_
      (try simp only [sI, sS, sZ])
      refine wpBut_r2 (i := 4) (j := 11) (by kernel_rfl) ?_ ?_
      refine go_call 4 39 #[true, true, true, true, true, true, true, true, true, false, false, false, false] rfl rfl rfl (by rfl) rfl rfl (by rfl) ent32 (by rfl) (KE1.out _) ?_
      rintro e wW221 ⟨rfl, hb⟩
      have hkW221 := held_next (below_dr W22) hb
      refine ⟨_, rfl, fun _ => hkW221, ?_⟩
      clear hb
      (try simp only [sI, sS, sZ])
      refine wpBut_r2 (i := 9) (j := 11) (by kernel_rfl) ?_ ?_
      refine go_call 9 44 #[true, true, true, true, true, true, true, true, true, true, false, false, false] rfl rfl rfl (by rfl) rfl rfl (by rfl) ent32 (by rfl) (KE2.out _) ?_
      rintro e wW222 ⟨rfl, hb⟩
      have hkW222 := held_next hkW221 hb
      refine ⟨_, rfl, fun _ => hkW222, ?_⟩
      clear hb
      (try simp only [sI, sS, sZ])
      refine wpBut_r2 (i := 10) (j := 11) (by kernel_rfl) ?_ ?_
      refine go_call 10 45 #[true, true, true, true, true, true, true, true, true, true, true, false, false] rfl rfl rfl (by rfl) rfl rfl (by rfl) ent38 (by rfl) (KE.out _) ?_
      rintro e wW223 ⟨rfl, hb⟩
      have hkW223 := held_next hkW222 hb
      refine ⟨_, rfl, fun _ => hkW223, ?_⟩
      clear hb
      (try simp only [sI, sS, sZ])
      refine wpBut_r1 (i := 11) (by kernel_rfl) ?_
      refine go_alloc 11 9 #[true, true, true, true, true, true, true, true, true, true, true, true, false] rfl rfl rfl (by rfl) 40 rfl _ al40 ?_
      intro wW224 hw2
      have hkW224 := (hkW223).alloc (hkW223).size (.cells z40 40)
      rw [← hw2] at hkW224
      have MQ := HasN.new (wW223) z40 40 22 (by kernel_rfl); rw [← hw2] at MQ; have MA11 := Lib.hid MQ; clear MQ
      have HA11 := Lib.hid (show W22.heap.size ≤ _ from (hkW223).size)
      clear hw2
      refine ⟨fun _ => hkW224, ?_⟩
      (try simp only [sI, sS, sZ])
      refine wpBut_r1 (i := 12) (by kernel_rfl) ?_
      obtain ⟨Zq, hZ, mZ⟩ := MA11.out
      refine go_store2 12 #[true, true, true, true, true, true, true, true, true, true, true, true, true] rfl rfl rfl (by rfl) 40 _ _ rfl _ _ rfl rfl 40 Zq mZ (by rw [r22_size]; kernel_rfl) (hZ.trans (r22_size ..).symm) (row_one _ _ _) ?_
      intro wW225 hw2
      have hkW225 := below_setRow (hkW224) _ (r22 E) HA11.out
      rw [← hw2] at hkW225
      clear MA11
      have MQ := mZ.setRow (r22 E); rw [← hw2] at MQ; have MA11 := Lib.hid MQ; clear MQ mZ hZ hw2
      refine ⟨fun _ => hkW225, ?_⟩
      (try simp only [sI, sS, sZ])
      exact wpBut_done (by kernel_rfl) (NoPanic.normal (HQ.out (_) _ ⟨HA11.out, MA11.out, (hkW225)⟩))
      refine go_alloc 11 9 #[true, true, true, true, true, true, true, true, true, true, false, true, false] rfl rfl rfl (by rfl) 40 rfl _ al40 ?_
      intro wW223 hw2
      have hkW223 := (hkW222).alloc (hkW222).size (.cells z40 40)
      rw [← hw2] at hkW223
      have MQ := HasN.new (wW222) z40 40 22 (by kernel_rfl); rw [← hw2] at MQ; have MA11 := Lib.hid MQ; clear MQ
      have HA11 := Lib.hid (show W22.heap.size ≤ _ from (hkW222).size)
      clear hw2
      refine ⟨fun _ => hkW223, ?_⟩
      (try simp only [sI, sS, sZ])
      refine wpBut_r1 (i := 10) (by kernel_rfl) ?_
      refine go_call 10 45 #[true, true, true, true, true, true, true, true, true, true, true, true, false] rfl rfl rfl (by rfl) rfl rfl (by rfl) ent38 (by rfl) (KE.out _) ?_
      rintro e wW224 ⟨rfl, hb⟩
      have hkW224 := held_next hkW223 hb
      have MQ11 := Lib.hid (MA11.out.call hb); clear MA11
      have MA11 := MQ11; clear MQ11
      refine ⟨_, rfl, fun _ => hkW224, ?_⟩
      clear hb
      (try simp only [sI, sS, sZ])
      refine wpBut_r1 (i := 12) (by kernel_rfl) ?_
      obtain ⟨Zq, hZ, mZ⟩ := MA11.out
      refine go_store2 12 #[true, true, true, true, true, true, true, true, true, true, true, true, true] rfl rfl rfl (by rfl) 40 _ _ rfl _ _ rfl rfl 40 Zq mZ (by rw [r22_size]; kernel_rfl) (hZ.trans (r22_size ..).symm) (row_one _ _ _) ?_
      intro wW225 hw2
      have hkW225 := below_setRow (hkW224) _ (r22 E) HA11.out
      rw [← hw2] at hkW225
      clear MA11
      have MQ := mZ.setRow (r22 E); rw [← hw2] at MQ; have MA11 := Lib.hid MQ; clear MQ mZ hZ hw2
      refine ⟨fun _ => hkW225, ?_⟩
      (try simp only [sI, sS, sZ])
      exact wpBut_done (by kernel_rfl) (NoPanic.normal (HQ.out (_) _ ⟨HA11.out, MA11.out, (hkW225)⟩))
      refine go_alloc 11 9 #[true, true, true, true, true, true, true, true, true, false, false, true, false] rfl rfl rfl (by rfl) 40 rfl _ al40 ?_
      intro wW222 hw2
      have hkW222 := (hkW221).alloc (hkW221).size (.cells z40 40)
      rw [← hw2] at hkW222
      have MQ := HasN.new (wW221) z40 40 22 (by kernel_rfl); rw [← hw2] at MQ; have MA11 := Lib.hid MQ; clear MQ
      have HA11 := Lib.hid (show W22.heap.size ≤ _ from (hkW221).size)
      clear hw2
      refine ⟨fun _ => hkW222, ?_⟩
      (try simp only [sI, sS, sZ])
      refine wpBut_r1 (i := 9) (by kernel_rfl) ?_
      refine go_call 9 44 #[true, true, true, true, true, true, true, true, true, true, false, true, false] rfl rfl rfl (by rfl) rfl rfl (by rfl) ent32 (by rfl) (KE2.out _) ?_
      rintro e wW223 ⟨rfl, hb⟩
      have hkW223 := held_next hkW222 hb
      have MQ11 := Lib.hid (MA11.out.call hb); clear MA11
      have MA11 := MQ11; clear MQ11
      refine ⟨_, rfl, fun _ => hkW223, ?_⟩
      clear hb
      (try simp only [sI, sS, sZ])
      refine wpBut_r1 (i := 10) (by kernel_rfl) ?_
      refine go_call 10 45 #[true, true, true, true, true, true, true, true, true, true, true, true, false] rfl rfl rfl (by rfl) rfl rfl (by rfl) ent38 (by rfl) (KE.out _) ?_
      rintro e wW224 ⟨rfl, hb⟩
      have hkW224 := held_next hkW223 hb
      have MQ11 := Lib.hid (MA11.out.call hb); clear MA11
      have MA11 := MQ11; clear MQ11
      refine ⟨_, rfl, fun _ => hkW224, ?_⟩
      clear hb
      (try simp only [sI, sS, sZ])
      refine wpBut_r1 (i := 12) (by kernel_rfl) ?_
      obtain ⟨Zq, hZ, mZ⟩ := MA11.out
      refine go_store2 12 #[true, true, true, true, true, true, true, true, true, true, true, true, true] rfl rfl rfl (by rfl) 40 _ _ rfl _ _ rfl rfl 40 Zq mZ (by rw [r22_size]; kernel_rfl) (hZ.trans (r22_size ..).symm) (row_one _ _ _) ?_
      intro wW225 hw2
      have hkW225 := below_setRow (hkW224) _ (r22 E) HA11.out
      rw [← hw2] at hkW225
      clear MA11
      have MQ := mZ.setRow (r22 E); rw [← hw2] at MQ; have MA11 := Lib.hid MQ; clear MQ mZ hZ hw2
      refine ⟨fun _ => hkW225, ?_⟩
      (try simp only [sI, sS, sZ])
      exact wpBut_done (by kernel_rfl) (NoPanic.normal (HQ.out (_) _ ⟨HA11.out, MA11.out, (hkW225)⟩))
      refine go_alloc 11 9 #[true, true, true, true, false, true, true, true, true, false, false, true, false] rfl rfl rfl (by rfl) 40 rfl _ al40 ?_
      intro wW221 hw2
      have hkW221 := ((below_dr W22)).alloc ((below_dr W22)).size (.cells z40 40)
      rw [← hw2] at hkW221
      have MQ := HasN.new (W22.drew) z40 40 22 (by kernel_rfl); rw [← hw2] at MQ; have MA11 := Lib.hid MQ; clear MQ
      have HA11 := Lib.hid (show W22.heap.size ≤ _ from ((below_dr W22)).size)
      clear hw2
      refine ⟨fun _ => hkW221, ?_⟩
      (try simp only [sI, sS, sZ])
      refine wpBut_r1 (i := 4) (by kernel_rfl) ?_
      refine go_call 4 39 #[true, true, true, true, true, true, true, true, true, false, false, true, false] rfl rfl rfl (by rfl) rfl rfl (by rfl) ent32 (by rfl) (KE1.out _) ?_
      rintro e wW222 ⟨rfl, hb⟩
      have hkW222 := held_next hkW221 hb
      have MQ11 := Lib.hid (MA11.out.call hb); clear MA11
      have MA11 := MQ11; clear MQ11
      refine ⟨_, rfl, fun _ => hkW222, ?_⟩
      clear hb
      (try simp only [sI, sS, sZ])
      refine wpBut_r1 (i := 9) (by kernel_rfl) ?_
      refine go_call 9 44 #[true, true, true, true, true, true, true, true, true, true, false, true, false] rfl rfl rfl (by rfl) rfl rfl (by rfl) ent32 (by rfl) (KE2.out _) ?_
      rintro e wW223 ⟨rfl, hb⟩
      have hkW223 := held_next hkW222 hb
      have MQ11 := Lib.hid (MA11.out.call hb); clear MA11
      have MA11 := MQ11; clear MQ11
      refine ⟨_, rfl, fun _ => hkW223, ?_⟩
      clear hb
      (try simp only [sI, sS, sZ])
      refine wpBut_r1 (i := 10) (by kernel_rfl) ?_
      refine go_call 10 45 #[true, true, true, true, true, true, true, true, true, true, true, true, false] rfl rfl rfl (by rfl) rfl rfl (by rfl) ent38 (by rfl) (KE.out _) ?_
      rintro e wW224 ⟨rfl, hb⟩
      have hkW224 := held_next hkW223 hb
      have MQ11 := Lib.hid (MA11.out.call hb); clear MA11
      have MA11 := MQ11; clear MQ11
      refine ⟨_, rfl, fun _ => hkW224, ?_⟩
      clear hb
      (try simp only [sI, sS, sZ])
      refine wpBut_r1 (i := 12) (by kernel_rfl) ?_
      obtain ⟨Zq, hZ, mZ⟩ := MA11.out
      refine go_store2 12 #[true, true, true, true, true, true, true, true, true, true, true, true, true] rfl rfl rfl (by rfl) 40 _ _ rfl _ _ rfl rfl 40 Zq mZ (by rw [r22_size]; kernel_rfl) (hZ.trans (r22_size ..).symm) (row_one _ _ _) ?_
      intro wW225 hw2
      have hkW225 := below_setRow (hkW224) _ (r22 E) HA11.out
      rw [← hw2] at hkW225
      clear MA11
      have MQ := mZ.setRow (r22 E); rw [← hw2] at MQ; have MA11 := Lib.hid MQ; clear MQ mZ hZ hw2
      refine ⟨fun _ => hkW225, ?_⟩
      (try simp only [sI, sS, sZ])
      exact wpBut_done (by kernel_rfl) (NoPanic.normal (HQ.out (_) _ ⟨HA11.out, MA11.out, (hkW225)⟩))
    · rintro W22 B9 vw22 hW22 ⟨hBq0, mBq0, hbw⟩
      simp only [Act.put, List.setIfInBounds_toArray, List.set_cons_succ, List.set_cons_zero] at  hBq0  mBq0 ⊢
      have kq := M2.out; rw [← hW22] at kq; clear M2; have M2 := Lib.hid kq; clear kq
      have kq := M3.out; rw [← hW22] at kq; clear M3; have M3 := Lib.hid kq; clear kq
      have kq := M4.out; rw [← hW22] at kq; clear M4; have M4 := Lib.hid kq; clear kq
      have kq := M5.out; rw [← hW22] at kq; clear M5; have M5 := Lib.hid kq; clear kq
      have kq := M6.out; rw [← hW22] at kq; clear M6; have M6 := Lib.hid kq; clear kq
      have kq := M7.out; rw [← hW22] at kq; clear M7; have M7 := Lib.hid kq; clear kq
      have kq := M8.out; rw [← hW22] at kq; clear M8; have M8 := Lib.hid kq; clear kq
      have kq := HB.out; rw [← hW22] at kq; clear HB; have HB := Lib.hid kq; clear kq
      clear hW22
      have hltM2_22 := M2.out.lt
      have hltM3_22 := M3.out.lt
      have hltM4_22 := M4.out.lt
      have hltM5_22 := M5.out.lt
      have hltM6_22 := M6.out.lt
      have hltM7_22 := M7.out.lt
      have hltM8_22 := M8.out.lt
      replace M2 := Lib.hid (M2.out.call hbw)
      replace M3 := Lib.hid (M3.out.call hbw)
      replace M4 := Lib.hid (M4.out.call hbw)
      replace M5 := Lib.hid (M5.out.call hbw)
      replace M6 := Lib.hid (M6.out.call hbw)
      replace M7 := Lib.hid (M7.out.call hbw)
      replace M8 := Lib.hid (M8.out.call hbw)
      replace HB := Lib.hid (held_next HB.out hbw)
      have M9 := Lib.hid mBq0; clear mBq0
      clear hbw
      clear M2 M3
      repeat ((fail_if_success (with_reducible (show wpList _ _ _ _ _ _))); go_step)
      refine wpList_load (by rfl) 40 _ rfl (uw3.heap.size) rfl 40 (r22 Dq) M8.out Try.underlying40 rfl (by rw [r22_size]; kernel_rfl) 46 rfl ?_
      (try simp only [Act.put, sI, sS, sZ])
      refine wpList_load (by rfl) 40 _ rfl (B7) rfl 40 (r22 Cq) M7.out Try.underlying40 rfl (by rw [r22_size]; kernel_rfl) 47 rfl ?_
      (try simp only [Act.put, sI, sS, sZ])
      refine wpList_call (by rfl) rfl rfl (by rfl) ent40 (by rfl) (KF.out _) 48 rfl ?_
      rintro e uw4 ⟨rfl, hb⟩
      replace M4 := Lib.hid (M4.out.call hb)
      replace M5 := Lib.hid (M5.out.call hb)
      replace M6 := Lib.hid (M6.out.call hb)
      replace M7 := Lib.hid (M7.out.call hb)
      replace M8 := Lib.hid (M8.out.call hb)
      replace M9 := Lib.hid (M9.out.call hb)
      replace HB := Lib.hid (held_next HB.out hb)
      refine ⟨_, rfl, ?_⟩
      clear hb
      (try simp only [Act.put, sI, sS, sZ])
      refine wpList_alloc (by rfl) 40 rfl _ al40 10 rfl ?_
      intro yw23 hw2
      have hlt24 := M4.out.lt
      have hlt25 := M5.out.lt
      have hlt26 := M6.out.lt
      have hlt27 := M7.out.lt
      have hlt28 := M8.out.lt
      have hlt29 := M9.out.lt
      have hsz := HB.out.size
      have kq := M4.out.alloc (.cells z40 40); rw [← hw2] at kq; clear M4; have M4 := Lib.hid kq; clear kq
      have kq := M5.out.alloc (.cells z40 40); rw [← hw2] at kq; clear M5; have M5 := Lib.hid kq; clear kq
      have kq := M6.out.alloc (.cells z40 40); rw [← hw2] at kq; clear M6; have M6 := Lib.hid kq; clear kq
      have kq := M7.out.alloc (.cells z40 40); rw [← hw2] at kq; clear M7; have M7 := Lib.hid kq; clear kq
      have kq := M8.out.alloc (.cells z40 40); rw [← hw2] at kq; clear M8; have M8 := Lib.hid kq; clear kq
      have kq := M9.out.alloc (.cells z40 40); rw [← hw2] at kq; clear M9; have M9 := Lib.hid kq; clear kq
      have kq := HasN.new uw4 z40 40 22 (by kernel_rfl); rw [← hw2] at kq; have M10 := Lib.hid kq; clear kq
      have kq := HB.out.alloc hsz (.cells z40 40); rw [← hw2] at kq; clear HB; have HB := Lib.hid kq; clear kq hw2
      (try simp only [Act.put, sI, sS, sZ])
      first | (obtain ⟨Zq, hZ, mZ⟩ := M10.out) | (obtain ⟨Zq, hZ, mZ⟩ := M10.out.toN (r22_size ..))
      refine wpList_store2 (by rfl) 40 _ _ rfl rfl (uw4.heap.size) (r22 F) rfl rfl 40 Zq mZ (by rw [r22_size]; kernel_rfl) (hZ.trans (r22_size ..).symm) (row_one _ _ _) ?_
      intro yw30 hw2
      have kq := M4.out.setRow_other (uw4.heap.size) (r22 F) (by omega); rw [← hw2] at kq; clear M4; have M4 := Lib.hid kq; clear kq
      have kq := M5.out.setRow_other (uw4.heap.size) (r22 F) (by omega); rw [← hw2] at kq; clear M5; have M5 := Lib.hid kq; clear kq
      have kq := M6.out.setRow_other (uw4.heap.size) (r22 F) (by omega); rw [← hw2] at kq; clear M6; have M6 := Lib.hid kq; clear kq
      have kq := M7.out.setRow_other (uw4.heap.size) (r22 F) (by omega); rw [← hw2] at kq; clear M7; have M7 := Lib.hid kq; clear kq
      have kq := M8.out.setRow_other (uw4.heap.size) (r22 F) (by omega); rw [← hw2] at kq; clear M8; have M8 := Lib.hid kq; clear kq
      have kq := M9.out.setRow_other (uw4.heap.size) (r22 F) (by omega); rw [← hw2] at kq; clear M9; have M9 := Lib.hid kq; clear kq
      have kq := mZ.setRow (r22 F); rw [← hw2] at kq; clear M10; have M10 := Lib.hid kq; clear kq mZ hZ
      have kq := below_setRow HB.out (uw4.heap.size) (r22 F) (by omega); rw [← hw2] at kq; clear HB; have HB := Lib.hid kq; clear kq hw2
      refine wpList_nil ?_
      repeat ((fail_if_success (with_reducible (show wpList _ _ _ _ _ _))); go_step)
      refine wpList_load (by rfl) 40 _ rfl (uw3.heap.size) rfl 40 (r22 Dq) M8.out Try.underlying40 rfl (by rw [r22_size]; kernel_rfl) 49 rfl ?_
      (try simp only [Act.put, sI, sS, sZ])
      refine wpList_load (by rfl) 40 _ rfl (B7) rfl 40 (r22 Cq) M7.out Try.underlying40 rfl (by rw [r22_size]; kernel_rfl) 50 rfl ?_
      (try simp only [Act.put, sI, sS, sZ])
      refine wpList_call (by rfl) rfl rfl (by rfl) ent38 (by rfl) (KG.out _) 51 rfl ?_
      rintro e uw5 ⟨rfl, hb⟩
      replace M4 := Lib.hid (M4.out.call hb)
      replace M5 := Lib.hid (M5.out.call hb)
      replace M6 := Lib.hid (M6.out.call hb)
      replace M7 := Lib.hid (M7.out.call hb)
      replace M8 := Lib.hid (M8.out.call hb)
      replace M9 := Lib.hid (M9.out.call hb)
      replace M10 := Lib.hid (M10.out.call hb)
      replace HB := Lib.hid (held_next HB.out hb)
      refine ⟨_, rfl, ?_⟩
      clear hb
      (try simp only [Act.put, sI, sS, sZ])
      refine wpList_alloc (by rfl) 40 rfl _ al40 11 rfl ?_
      intro yw31 hw2
      have hlt32 := M4.out.lt
      have hlt33 := M5.out.lt
      have hlt34 := M6.out.lt
      have hlt35 := M7.out.lt
      have hlt36 := M8.out.lt
      have hlt37 := M9.out.lt
      have hlt38 := M10.out.lt
      have hsz := HB.out.size
      have kq := M4.out.alloc (.cells z40 40); rw [← hw2] at kq; clear M4; have M4 := Lib.hid kq; clear kq
      have kq := M5.out.alloc (.cells z40 40); rw [← hw2] at kq; clear M5; have M5 := Lib.hid kq; clear kq
      have kq := M6.out.alloc (.cells z40 40); rw [← hw2] at kq; clear M6; have M6 := Lib.hid kq; clear kq
      have kq := M7.out.alloc (.cells z40 40); rw [← hw2] at kq; clear M7; have M7 := Lib.hid kq; clear kq
      have kq := M8.out.alloc (.cells z40 40); rw [← hw2] at kq; clear M8; have M8 := Lib.hid kq; clear kq
      have kq := M9.out.alloc (.cells z40 40); rw [← hw2] at kq; clear M9; have M9 := Lib.hid kq; clear kq
      have kq := M10.out.alloc (.cells z40 40); rw [← hw2] at kq; clear M10; have M10 := Lib.hid kq; clear kq
      have kq := HasN.new uw5 z40 40 22 (by kernel_rfl); rw [← hw2] at kq; have M11 := Lib.hid kq; clear kq
      have kq := HB.out.alloc hsz (.cells z40 40); rw [← hw2] at kq; clear HB; have HB := Lib.hid kq; clear kq hw2
      (try simp only [Act.put, sI, sS, sZ])
      first | (obtain ⟨Zq, hZ, mZ⟩ := M11.out) | (obtain ⟨Zq, hZ, mZ⟩ := M11.out.toN (r22_size ..))
      refine wpList_store2 (by rfl) 40 _ _ rfl rfl (uw5.heap.size) (r22 G) rfl rfl 40 Zq mZ (by rw [r22_size]; kernel_rfl) (hZ.trans (r22_size ..).symm) (row_one _ _ _) ?_
      intro yw39 hw2
      have kq := M4.out.setRow_other (uw5.heap.size) (r22 G) (by omega); rw [← hw2] at kq; clear M4; have M4 := Lib.hid kq; clear kq
      have kq := M5.out.setRow_other (uw5.heap.size) (r22 G) (by omega); rw [← hw2] at kq; clear M5; have M5 := Lib.hid kq; clear kq
      have kq := M6.out.setRow_other (uw5.heap.size) (r22 G) (by omega); rw [← hw2] at kq; clear M6; have M6 := Lib.hid kq; clear kq
      have kq := M7.out.setRow_other (uw5.heap.size) (r22 G) (by omega); rw [← hw2] at kq; clear M7; have M7 := Lib.hid kq; clear kq
      have kq := M8.out.setRow_other (uw5.heap.size) (r22 G) (by omega); rw [← hw2] at kq; clear M8; have M8 := Lib.hid kq; clear kq
      have kq := M9.out.setRow_other (uw5.heap.size) (r22 G) (by omega); rw [← hw2] at kq; clear M9; have M9 := Lib.hid kq; clear kq
      have kq := M10.out.setRow_other (uw5.heap.size) (r22 G) (by omega); rw [← hw2] at kq; clear M10; have M10 := Lib.hid kq; clear kq
      have kq := mZ.setRow (r22 G); rw [← hw2] at kq; clear M11; have M11 := Lib.hid kq; clear kq mZ hZ
      have kq := below_setRow HB.out (uw5.heap.size) (r22 G) (by omega); rw [← hw2] at kq; clear HB; have HB := Lib.hid kq; clear kq hw2
      refine wpList_nil ?_
      repeat ((fail_if_success (with_reducible (show wpList _ _ _ _ _ _))); go_step)
      refine wpList_load (by rfl) 40 _ rfl (uw2.heap.size) rfl 40 (r22 Bq) M6.out Try.underlying40 rfl (by rw [r22_size]; kernel_rfl) 52 rfl ?_
      (try simp only [Act.put, sI, sS, sZ])
      refine wpList_load (by rfl) 40 _ rfl (uw1.heap.size) rfl 40 (r22 A) M5.out Try.underlying40 rfl (by rw [r22_size]; kernel_rfl) 53 rfl ?_
      (try simp only [Act.put, sI, sS, sZ])
      refine wpList_call (by rfl) rfl rfl (by rfl) ent38 (by rfl) (KH.out _) 54 rfl ?_
      rintro e uw6 ⟨rfl, hb⟩
      replace M4 := Lib.hid (M4.out.call hb)
      replace M5 := Lib.hid (M5.out.call hb)
      replace M6 := Lib.hid (M6.out.call hb)
      replace M7 := Lib.hid (M7.out.call hb)
      replace M8 := Lib.hid (M8.out.call hb)
      replace M9 := Lib.hid (M9.out.call hb)
      replace M10 := Lib.hid (M10.out.call hb)
      replace M11 := Lib.hid (M11.out.call hb)
      replace HB := Lib.hid (held_next HB.out hb)
      refine ⟨_, rfl, ?_⟩
      clear hb
      (try simp only [Act.put, sI, sS, sZ])
      refine wpList_alloc (by rfl) 40 rfl _ al40 12 rfl ?_
      intro yw40 hw2
      have hlt41 := M4.out.lt
      have hlt42 := M5.out.lt
      have hlt43 := M6.out.lt
      have hlt44 := M7.out.lt
      have hlt45 := M8.out.lt
      have hlt46 := M9.out.lt
      have hlt47 := M10.out.lt
      have hlt48 := M11.out.lt
      have hsz := HB.out.size
      have kq := M4.out.alloc (.cells z40 40); rw [← hw2] at kq; clear M4; have M4 := Lib.hid kq; clear kq
      have kq := M5.out.alloc (.cells z40 40); rw [← hw2] at kq; clear M5; have M5 := Lib.hid kq; clear kq
      have kq := M6.out.alloc (.cells z40 40); rw [← hw2] at kq; clear M6; have M6 := Lib.hid kq; clear kq
      have kq := M7.out.alloc (.cells z40 40); rw [← hw2] at kq; clear M7; have M7 := Lib.hid kq; clear kq
      have kq := M8.out.alloc (.cells z40 40); rw [← hw2] at kq; clear M8; have M8 := Lib.hid kq; clear kq
      have kq := M9.out.alloc (.cells z40 40); rw [← hw2] at kq; clear M9; have M9 := Lib.hid kq; clear kq
      have kq := M10.out.alloc (.cells z40 40); rw [← hw2] at kq; clear M10; have M10 := Lib.hid kq; clear kq
      have kq := M11.out.alloc (.cells z40 40); rw [← hw2] at kq; clear M11; have M11 := Lib.hid kq; clear kq
      have kq := HasN.new uw6 z40 40 22 (by kernel_rfl); rw [← hw2] at kq; have M12 := Lib.hid kq; clear kq
      have kq := HB.out.alloc hsz (.cells z40 40); rw [← hw2] at kq; clear HB; have HB := Lib.hid kq; clear kq hw2
      (try simp only [Act.put, sI, sS, sZ])
      first | (obtain ⟨Zq, hZ, mZ⟩ := M12.out) | (obtain ⟨Zq, hZ, mZ⟩ := M12.out.toN (r22_size ..))
      refine wpList_store2 (by rfl) 40 _ _ rfl rfl (uw6.heap.size) (r22 Hq) rfl rfl 40 Zq mZ (by rw [r22_size]; kernel_rfl) (hZ.trans (r22_size ..).symm) (row_one _ _ _) ?_
      intro yw49 hw2
      have kq := M4.out.setRow_other (uw6.heap.size) (r22 Hq) (by omega); rw [← hw2] at kq; clear M4; have M4 := Lib.hid kq; clear kq
      have kq := M5.out.setRow_other (uw6.heap.size) (r22 Hq) (by omega); rw [← hw2] at kq; clear M5; have M5 := Lib.hid kq; clear kq
      have kq := M6.out.setRow_other (uw6.heap.size) (r22 Hq) (by omega); rw [← hw2] at kq; clear M6; have M6 := Lib.hid kq; clear kq
      have kq := M7.out.setRow_other (uw6.heap.size) (r22 Hq) (by omega); rw [← hw2] at kq; clear M7; have M7 := Lib.hid kq; clear kq
      have kq := M8.out.setRow_other (uw6.heap.size) (r22 Hq) (by omega); rw [← hw2] at kq; clear M8; have M8 := Lib.hid kq; clear kq
      have kq := M9.out.setRow_other (uw6.heap.size) (r22 Hq) (by omega); rw [← hw2] at kq; clear M9; have M9 := Lib.hid kq; clear kq
      have kq := M10.out.setRow_other (uw6.heap.size) (r22 Hq) (by omega); rw [← hw2] at kq; clear M10; have M10 := Lib.hid kq; clear kq
      have kq := M11.out.setRow_other (uw6.heap.size) (r22 Hq) (by omega); rw [← hw2] at kq; clear M11; have M11 := Lib.hid kq; clear kq
      have kq := mZ.setRow (r22 Hq); rw [← hw2] at kq; clear M12; have M12 := Lib.hid kq; clear kq mZ hZ
      have kq := below_setRow HB.out (uw6.heap.size) (r22 Hq) (by omega); rw [← hw2] at kq; clear HB; have HB := Lib.hid kq; clear kq hw2
      refine wpList_nil ?_
      clear M5 M6 M7 M8
      repeat ((fail_if_success (with_reducible (show wpList _ _ _ _ _ _))); go_step)
      refine wp_region_noPanic ?_
      refine wp_region_go 13 14 #[false, false, false, false, false, false, false, false, false, false, false, false, false, false] (by kernel_rfl) rfl rfl ?_
      intro W50 hW50
      have kq := M4.out; rw [← hW50] at kq; clear M4; have M4 := Lib.hid kq; clear kq
      have kq := M9.out; rw [← hW50] at kq; clear M9; have M9 := Lib.hid kq; clear kq
      have kq := M10.out; rw [← hW50] at kq; clear M10; have M10 := Lib.hid kq; clear kq
      have kq := M11.out; rw [← hW50] at kq; clear M11; have M11 := Lib.hid kq; clear kq
      have kq := M12.out; rw [← hW50] at kq; clear M12; have M12 := Lib.hid kq; clear kq
      have kq := HB.out; rw [← hW50] at kq; clear HB; have HB := Lib.hid kq; clear kq
      clear hW50
      have M4N := Lib.hid (by first | exact M4.out | exact M4.out.toN (by first | exact e4_size _ | exact r22_size _ | exact k32_size _ | exact pt_size .. | exact rp_size ..) : HasN W50 (w.heap.size + 1 + 1) _ _)
      refine go_take2 0 55 #[true, false, false, false, false, false, false, false, false, false, false, false, false, false] rfl rfl rfl (by kernel_rfl) (yieldsIf_load_row (by rfl) 40 _ rfl (B9) rfl 40 (r22 E) (fun _ h => M9.out.below h M9.out.lt) Try.underlying40 rfl (by rw [r22_size]; kernel_rfl)) ((below_dr W50)) ?_
      (try simp only [sI, sS, sZ])
      refine go_take2 1 56 #[true, true, false, false, false, false, false, false, false, false, false, false, false, false] rfl rfl rfl (by kernel_rfl) (yieldsIf_load_row (by rfl) 40 _ rfl (uw4.heap.size) rfl 40 (r22 F) (fun _ h => M10.out.below h M10.out.lt) Try.underlying40 rfl (by rw [r22_size]; kernel_rfl)) ((below_dr W50)) ?_
      (try simp only [sI, sS, sZ])
      refine go_take2 3 58 #[true, true, false, true, false, false, false, false, false, false, false, false, false, false] rfl rfl rfl (by kernel_rfl) (yieldsIf_load_row (by rfl) 40 _ rfl (uw5.heap.size) rfl 40 (r22 G) (fun _ h => M11.out.below h M11.out.lt) Try.underlying40 rfl (by rw [r22_size]; kernel_rfl)) ((below_dr W50)) ?_
      (try simp only [sI, sS, sZ])
      refine go_take2 4 59 #[true, true, false, true, true, false, false, false, false, false, false, false, false, false] rfl rfl rfl (by kernel_rfl) (yieldsIf_load_row (by rfl) 40 _ rfl (uw6.heap.size) rfl 40 (r22 Hq) (fun _ h => M12.out.below h M12.out.lt) Try.underlying40 rfl (by rw [r22_size]; kernel_rfl)) ((below_dr W50)) ?_
      (try simp only [sI, sS, sZ])
      refine go_take2 6 61 #[true, true, false, true, true, false, true, false, false, false, false, false, false, false] rfl rfl rfl (by kernel_rfl) (yieldsIf_load_row (by rfl) 40 _ rfl (uw4.heap.size) rfl 40 (r22 F) (fun _ h => M10.out.below h M10.out.lt) Try.underlying40 rfl (by rw [r22_size]; kernel_rfl)) ((below_dr W50)) ?_
      (try simp only [sI, sS, sZ])
      refine go_take2 7 62 #[true, true, false, true, true, false, true, true, false, false, false, false, false, false] rfl rfl rfl (by kernel_rfl) (yieldsIf_load_row (by rfl) 40 _ rfl (uw5.heap.size) rfl 40 (r22 G) (fun _ h => M11.out.below h M11.out.lt) Try.underlying40 rfl (by rw [r22_size]; kernel_rfl)) ((below_dr W50)) ?_
      (try simp only [sI, sS, sZ])
      refine go_take2 9 64 #[true, true, false, true, true, false, true, true, false, true, false, false, false, false] rfl rfl rfl (by kernel_rfl) (yieldsIf_load_row (by rfl) 40 _ rfl (B9) rfl 40 (r22 E) (fun _ h => M9.out.below h M9.out.lt) Try.underlying40 rfl (by rw [r22_size]; kernel_rfl)) ((below_dr W50)) ?_
      (try simp only [sI, sS, sZ])
      refine go_take2 10 65 #[true, true, false, true, true, false, true, true, false, true, true, false, false, false] rfl rfl rfl (by kernel_rfl) (yieldsIf_load_row (by rfl) 40 _ rfl (uw6.heap.size) rfl 40 (r22 Hq) (fun _ h => M12.out.below h M12.out.lt) Try.underlying40 rfl (by rw [r22_size]; kernel_rfl)) ((below_dr W50)) ?_
      (try simp only [sI, sS, sZ])
      refine wpBut_r1 (i := 2) (by kernel_rfl) ?_
      refine go_call 2 57 #[true, true, true, true, true, false, true, true, false, true, true, false, false, false] rfl rfl rfl (by rfl) rfl rfl (by rfl) ent32 (by rfl) (KX.out _) ?_
      rintro e wW501 ⟨rfl, hb⟩
      have hkW501 := held_next (below_dr W50) hb
      refine ⟨_, rfl, fun _ => hkW501, ?_⟩
      clear hb
      (try simp only [sI, sS, sZ])
      refine wpBut_r1 (i := 5) (by kernel_rfl) ?_
      refine go_call 5 60 #[true, true, true, true, true, true, true, true, false, true, true, false, false, false] rfl rfl rfl (by rfl) rfl rfl (by rfl) ent32 (by rfl) (KY.out _) ?_
      rintro e wW502 ⟨rfl, hb⟩
      have hkW502 := held_next hkW501 hb
      refine ⟨_, rfl, fun _ => hkW502, ?_⟩
      clear hb
      (try simp only [sI, sS, sZ])
      refine wpBut_r1 (i := 8) (by kernel_rfl) ?_
      refine go_call 8 63 #[true, true, true, true, true, true, true, true, true, true, true, false, false, false] rfl rfl rfl (by rfl) rfl rfl (by rfl) ent32 (by rfl) (KZ.out _) ?_
      rintro e wW503 ⟨rfl, hb⟩
      have hkW503 := held_next hkW502 hb
      refine ⟨_, rfl, fun _ => hkW503, ?_⟩
      clear hb
      (try simp only [sI, sS, sZ])
      refine wpBut_r1 (i := 11) (by kernel_rfl) ?_
      refine go_call 11 66 #[true, true, true, true, true, true, true, true, true, true, true, true, false, false] rfl rfl rfl (by rfl) rfl rfl (by rfl) ent32 (by rfl) (KT.out _) ?_
      rintro e wW504 ⟨rfl, hb⟩
      have hkW504 := held_next hkW503 hb
      refine ⟨_, rfl, fun _ => hkW504, ?_⟩
      clear hb
      (try simp only [sI, sS, sZ])
      refine go_take2 12 67 #[true, true, true, true, true, true, true, true, true, true, true, true, true, false] rfl rfl rfl (by kernel_rfl) (yieldsIf_build (by rfl) 57 _ rfl _ (by rfl) (rp X3 Y3 Z3 T3) (bd57 X3 Y3 Z3 T3)) (hkW504) ?_
      (try simp only [sI, sS, sZ])
      refine wpBut_r1 (i := 13) (by kernel_rfl) ?_
      obtain ⟨Zq, hZ, mZ⟩ := M4N.out.below hkW504 M4N.out.lt
      have MZ := Lib.hid mZ; clear mZ
      have HZ := Lib.hid hZ; clear hZ
      refine go_store 13 #[true, true, true, true, true, true, true, true, true, true, true, true, true, true] rfl rfl rfl (by rfl) 57 _ _ rfl (w.heap.size + 1 + 1) _ rfl rfl 57 Zq MZ.out (by rw [rp_size]; kernel_rfl) (HZ.out.trans (rp_size ..).symm) (rp_one _ _ _ _) ⟨fun h => (h rfl).elim, ?_⟩
      (try simp only [sI, sS, sZ])
      refine wpBut_done (by kernel_rfl) (NoPanic.normal ?_)
      replace M9 := Lib.hid ((M9.out.call hkW504).setRow_other (w.heap.size + 1 + 1) (rp X3 Y3 Z3 T3) (by omega))
      replace M10 := Lib.hid ((M10.out.call hkW504).setRow_other (w.heap.size + 1 + 1) (rp X3 Y3 Z3 T3) (by omega))
      replace M11 := Lib.hid ((M11.out.call hkW504).setRow_other (w.heap.size + 1 + 1) (rp X3 Y3 Z3 T3) (by omega))
      replace M12 := Lib.hid ((M12.out.call hkW504).setRow_other (w.heap.size + 1 + 1) (rp X3 Y3 Z3 T3) (by omega))
      clear M4 M4N
      have M4 := Lib.hid (MZ.out.setRow (rp X3 Y3 Z3 T3)); clear MZ HZ
      replace HB := Lib.hid (below_setRow (held_next HB.out hkW504) (w.heap.size + 1 + 1) (rp X3 Y3 Z3 T3) (by omega))
      obtain ⟨yw51, hwyw51⟩ : ∃ ww, ww = wW504.setRow (w.heap.size + 1 + 1) (rp X3 Y3 Z3 T3) := ⟨_, rfl⟩
      rw [← hwyw51] at M4 M9 M10 M11 M12 HB ⊢
      clear hwyw51
      go_wp2_with fail
      exact bodyPost_ret (v := .agg (rp X3 Y3 Z3 T3)) (results_cell_row (t := 57) (by rfl) _ _ (w.heap.size + 1 + 1) _ _ _ rfl M4.out Try.underlying57 rfl (by rw [rp_size]; kernel_rfl)) rfl ⟨rfl, HB.out⟩
end Go.Proofs.Ytjiagjonlcadiaa
