/- Chapter 04: Turned; the sums of both are the same. -/
import Derived.Test.YtjiagjonlcadiaaCrvM
import Derived.Test.YtjiagjonlcadiaaCrvL
namespace Go.Proofs.Ytjiagjonlcadiaa
open Go.RowKit Go.Lib

theorem rp_there {w : World} {b : Nat} {t : TypeId} {x y z s : Nat} (h : Has w b (rp x y z s) t) (o : Nat) (ho : o + 22 ≤ 88) : w.there b o 22 := fun j hj => by
  rw [h.cellAt, h.frozen]
  have : o + j < (rp x y z s).size := by rw [rp_size]; omega
  simp [this]
theorem rp_setx {w : World} {b : Nat} {t : TypeId} {x y z s : Nat} (h : Has w b (rp x y z s) t) (x2 : Nat) : Has (w.setCells b 0 (r22 x2).toList) b (rp x2 y z s) t := by
  have := Has.setCells (r22l x2) (rp x y z s) 0 h (by rw [r22l_len, rp_size]; omega)
  rw [r22l_len] at this
  have e : (List.take 0 (rp x y z s).toList ++ r22l x2 ++ List.drop (0 + 22) (rp x y z s).toList).toArray = rp x2 y z s := by
    unfold rp
    simp only [List.take_zero, List.nil_append, Nat.zero_add, List.append_assoc]
    rw [show (22 : Nat) = (r22l x).length from (r22l_len x).symm, List.drop_left]
  rw [e] at this
  exact this
theorem rp_sett {w : World} {b : Nat} {t : TypeId} {x y z s : Nat} (h : Has w b (rp x y z s) t) (s2 : Nat) : Has (w.setCells b 66 (r22 s2).toList) b (rp x y z s2) t := by
  have := Has.setCells (r22l s2) (rp x y z s) 66 h (by rw [r22l_len, rp_size]; omega)
  rw [r22l_len] at this
  have e : (List.take 66 (rp x y z s).toList ++ r22l s2 ++ List.drop (66 + 22) (rp x y z s).toList).toArray = rp x y z s2 := by
    unfold rp
    have h66 : (66 : Nat) = (r22l x ++ r22l y ++ r22l z).length := by simp [r22l_len]
    have h88 : List.drop (66 + 22) (r22l x ++ r22l y ++ r22l z ++ r22l s) = [] := by
      apply List.drop_eq_nil_of_le; simp [r22l_len]
    rw [show ((r22l x ++ r22l y ++ r22l z ++ r22l s).toArray).toList = r22l x ++ r22l y ++ r22l z ++ r22l s from rfl, h88, h66, List.take_left, List.append_nil]
  rw [e] at this
  exact this

set_option maxRecDepth 100000 in
set_option linter.unusedSimpArgs false in
set_option maxHeartbeats 8000000 in
theorem turned_any (X Y Z T : Nat) (hX : X < PP) (hT : T < PP) (w : World) :
    Calls Try.prog 54 #[.agg (rp X Y Z T)] w fun e w' => e = .returned (.agg (rp (negP X) Y Z (negP T))) ∧ Below w.heap.size w w' := by
  have h1 := fun w => rminus_any 0 X PP_pos hX w
  have h2 := fun w => rminus_any 0 T PP_pos hT w
  obtain ⟨NX, hNX⟩ : ∃ n, n = negP X := ⟨_, rfl⟩
  obtain ⟨NT, hNT⟩ : ∃ n, n = negP T := ⟨_, rfl⟩
  rw [show (0 + (PP - X)) % PP = NX by rw [hNX]; unfold negP; rw [Nat.zero_mod]] at h1
  rw [show (0 + (PP - T)) % PP = NT by rw [hNT]; unfold negP; rw [Nat.zero_mod]] at h2
  rw [← hNX, ← hNT]
  clear hNX hNT hX hT
  have H1 := Lib.hid h1; clear h1
  have H2 := Lib.hid h2; clear h2
  go_enter Try.func54, Try.ntmps54
  repeat ((fail_if_success (with_reducible (show wpList _ _ _ _ _ _))); go_step)
  refine wpList_step (fun K hK => ?_)
  go_simp
  (try go_bits)
  refine hK _ _ ?_
  clear hK K
  refine wpList_step (fun K hK => ?_)
  go_simp
  (try go_bits)
  refine hK _ _ ?_
  clear hK K
  refine wpList_nil ?_
  have M1 := Lib.hid ((Has.new w  (rp X Y Z T) 57).alloc (.cells Try.zeroCells57 57))
  have M2 := Lib.hid (HasN.new1 w (.cells (rp X Y Z T) 57) Try.zeroCells57 57 88 (by kernel_rfl))
  have HB := Lib.hid (below_2 w (.cells (rp X Y Z T) 57) (.cells Try.zeroCells57 57))
  obtain ⟨yw1, hwyw1⟩ : ∃ ww, ww = ((w.alloc (.cells (rp X Y Z T) 57)).alloc (.cells Try.zeroCells57 57)) := ⟨_, rfl⟩
  rw [← hwyw1] at M1 M2 HB ⊢
  clear hwyw1
  repeat ((fail_if_success (with_reducible (show wpList _ _ _ _ _ _))); go_step)
  refine wpList_built (by rfl) 40 _ rfl _ (by rfl) (r22 0) (bd40z) 3 rfl ?_
  (try simp only [Act.put, sI, sS, sZ])
  refine wpList_step (fun K hK => ?_)
  go_simp
  (try go_bits)
  refine hK _ _ ?_
  clear hK K
  refine wpList_loadm (by rfl) 40 _ rfl (w.heap.size) 0 rfl (r22l X) (r22 X) rfl (rp_x M1.out) _ Try.underlying40 rfl (by rw [r22l_len]; kernel_rfl) 5 rfl ?_
  (try simp only [Act.put, sI, sS, sZ])
  refine wpList_call (by rfl) rfl rfl (by rfl) ent40 (by rfl) (H1.out _) 6 rfl ?_
  rintro e uw1 ⟨rfl, hb⟩
  replace M1 := Lib.hid (M1.out.call hb)
  replace M2 := Lib.hid (M2.out.call hb)
  replace HB := Lib.hid (held_next HB.out hb)
  refine ⟨_, rfl, ?_⟩
  clear hb
  (try simp only [Act.put, sI, sS, sZ])
  refine wpList_step (fun K hK => ?_)
  go_simp
  (try go_bits)
  refine hK _ _ ?_
  clear hK K
  
  refine wpList_store_mid rfl 40 _ _ rfl (w.heap.size) 0 (r22 NX) rfl rfl (by rw [r22_size]; exact rp_there M1.out 0 (by omega)) (by rw [r22_size]; kernel_rfl) (row_one _ _ _) ?_
  (try simp only [Act.put, sI, sS, sZ])
  replace M2 := Lib.hid (M2.out.setCells_other (w.heap.size) 0 (r22 NX).toList (by omega))
  replace HB := Lib.hid (below_setCells (w.heap.size) (by omega) (r22 NX).toList _ 0 HB.out)
  replace M1 := Lib.hid (rp_setx M1.out NX)
  obtain ⟨yw2, hwyw2⟩ : ∃ ww, ww = uw1.setCells (w.heap.size) 0 (r22 NX).toList := ⟨_, rfl⟩
  rw [← hwyw2] at M1 M2 HB ⊢
  clear hwyw2
  refine wpList_nil ?_
  repeat ((fail_if_success (with_reducible (show wpList _ _ _ _ _ _))); go_step)
  refine wpList_built (by rfl) 40 _ rfl _ (by rfl) (r22 0) (bd40z) 8 rfl ?_
  (try simp only [Act.put, sI, sS, sZ])
  refine wpList_step (fun K hK => ?_)
  go_simp
  (try go_bits)
  refine hK _ _ ?_
  clear hK K
  refine wpList_loadm (by rfl) 40 _ rfl (w.heap.size) 66 rfl (r22l T) (r22 T) rfl (rp_t M1.out) _ Try.underlying40 rfl (by rw [r22l_len]; kernel_rfl) 10 rfl ?_
  (try simp only [Act.put, sI, sS, sZ])
  refine wpList_call (by rfl) rfl rfl (by rfl) ent40 (by rfl) (H2.out _) 11 rfl ?_
  rintro e uw2 ⟨rfl, hb⟩
  replace M1 := Lib.hid (M1.out.call hb)
  replace M2 := Lib.hid (M2.out.call hb)
  replace HB := Lib.hid (held_next HB.out hb)
  refine ⟨_, rfl, ?_⟩
  clear hb
  (try simp only [Act.put, sI, sS, sZ])
  refine wpList_step (fun K hK => ?_)
  go_simp
  (try go_bits)
  refine hK _ _ ?_
  clear hK K
  
  refine wpList_store_mid rfl 40 _ _ rfl (w.heap.size) 66 (r22 NT) rfl rfl (by rw [r22_size]; exact rp_there M1.out 66 (by omega)) (by rw [r22_size]; kernel_rfl) (row_one _ _ _) ?_
  (try simp only [Act.put, sI, sS, sZ])
  replace M2 := Lib.hid (M2.out.setCells_other (w.heap.size) 66 (r22 NT).toList (by omega))
  replace HB := Lib.hid (below_setCells (w.heap.size) (by omega) (r22 NT).toList _ 66 HB.out)
  replace M1 := Lib.hid (rp_sett M1.out NT)
  obtain ⟨yw3, hwyw3⟩ : ∃ ww, ww = uw2.setCells (w.heap.size) 66 (r22 NT).toList := ⟨_, rfl⟩
  rw [← hwyw3] at M1 M2 HB ⊢
  clear hwyw3
  refine wpList_nil ?_
  repeat ((fail_if_success (with_reducible (show wpList _ _ _ _ _ _))); go_step)
  refine wpList_load (by rfl) 57 _ rfl (w.heap.size) rfl 57 (rp NX Y Z NT) M1.out Try.underlying57 rfl (by rw [rp_size]; kernel_rfl) 13 rfl ?_
  (try simp only [Act.put, sI, sS, sZ])
  first | (obtain ⟨Zq, hZ, mZ⟩ := M2.out) | (obtain ⟨Zq, hZ, mZ⟩ := M2.out.toN (rp_size ..))
  refine wpList_store2 (by rfl) 57 _ _ rfl rfl (w.heap.size + 1) (rp NX Y Z NT) rfl rfl 57 Zq mZ (by rw [rp_size]; kernel_rfl) (hZ.trans (rp_size ..).symm) (rp_one _ _ _ _) ?_
  intro yw4 hw2
  have kq := M1.out.setRow_other (w.heap.size + 1) (rp NX Y Z NT) (by omega); rw [← hw2] at kq; clear M1; have M1 := Lib.hid kq; clear kq
  have kq := mZ.setRow (rp NX Y Z NT); rw [← hw2] at kq; clear M2; have M2 := Lib.hid kq; clear kq mZ hZ
  have kq := below_setRow HB.out (w.heap.size + 1) (rp NX Y Z NT) (by omega); rw [← hw2] at kq; clear HB; have HB := Lib.hid kq; clear kq hw2
  refine wpList_nil ?_
  go_wp2_with fail
  exact bodyPost_ret (v := .agg (rp NX Y Z NT)) (results_cell_row (t := 57) (by rfl) _ _ (w.heap.size + 1) _ _ _ rfl M2.out Try.underlying57 rfl (by rw [rp_size]; kernel_rfl)) rfl ⟨rfl, HB.out⟩

theorem mo_sub (a b c : Nat) (hb : b ≤ PP) (h : a % PP = (c + b) % PP) : (a + (PP - b)) % PP = c % PP := by
  rw [mo_add_l a (c + b) _ h, Nat.add_assoc, show b + (PP - b) = PP by omega, Nat.add_mod_right]
theorem cross_agree (X1 Y1 X2 Y2 : Nat) : (((X1 + Y1) % PP * ((X2 + Y2) % PP) % PP + (PP - X1 * X2 % PP)) % PP + (PP - Y1 * Y2 % PP)) % PP = (X1 * Y2 % PP + Y1 * X2 % PP) % PP := by
  have hx : X1 * X2 % PP ≤ PP := Nat.le_of_lt (Nat.mod_lt _ PP_pos)
  have hy : Y1 * Y2 % PP ≤ PP := Nat.le_of_lt (Nat.mod_lt _ PP_pos)
  have e : (X1 + Y1) * (X2 + Y2) = X1 * Y2 + Y1 * X2 + Y1 * Y2 + X1 * X2 := by
    rw [Nat.add_mul, Nat.mul_add, Nat.mul_add]; omega
  have s1 : ((X1 + Y1) % PP * ((X2 + Y2) % PP) % PP + (PP - X1 * X2 % PP)) % PP = (X1 * Y2 + Y1 * X2 + Y1 * Y2) % PP := by
    refine mo_sub _ _ _ hx ?_
    rw [Nat.mod_mod, ← Nat.mul_mod, e, Nat.add_mod_mod]
  rw [← Nat.add_mod (X1 * Y2)]
  refine mo_sub _ _ _ hy ?_
  rw [Nat.mod_mod, s1, Nat.add_mod_mod]
theorem sums_agree (X1 Y1 X2 Y2 T2 : Nat) (hT2 : T2 = X2 * Y2 % PP) :
    padd SL X1 Y1 1 X2 Y2 1 = ((radd X1 Y1 1 (X1 * Y1 % PP) X2 Y2 1 T2).1, (radd X1 Y1 1 (X1 * Y1 % PP) X2 Y2 1 T2).2.1, (radd X1 Y1 1 (X1 * Y1 % PP) X2 Y2 1 T2).2.2.1) := by
  have h1 : 1 * 1 % PP = 1 := one_PP
  have hE : SL * (X1 * X2 % PP) % PP * (Y1 * Y2 % PP) % PP = SL * (X1 * Y1 % PP * T2 % PP) % PP := by
    rw [hT2]
    simp only [Nat.mod_mul_mod, Nat.mul_mod_mod]
    congr 1; ac_rfl
  have hC := cross_agree X1 Y1 X2 Y2
  unfold padd radd
  simp only [h1, hE, hC, Nat.one_mul, Nat.mod_mod]
  rw [Nat.mul_comm ((X1 * Y2 % PP + Y1 * X2 % PP) % PP)]
theorem neg_prod (X Y : Nat) (hX : X < PP) : negP (X * Y % PP) = negP X * Y % PP := by
  unfold negP
  rw [Nat.zero_mod, Nat.zero_add, Nat.zero_add, Nat.mod_mul_mod, Nat.mul_comm (PP - X) Y, neg_mul Y X hX, Nat.mul_comm Y X]
theorem rt3_0 : rt3 0 = 0 := by
  have h := rt3_sq 0 (rtok_zero 0 rfl)
  rcases no_zero _ _ h with h | h <;> rwa [Nat.mod_eq_of_lt (rt3_lt 0)] at h
theorem cx_1 : cx 1 = 0 := cx_pm 1 0 (by decide +kernel)
/-- what a point's x is: the even root, or the odd one -/
theorem cof_x (n : Nat) : (cof n).2.1 = rt3 (cx (cof n).2.2) ∨ (rt3 (cx (cof n).2.2) ≠ 0 ∧ (cof n).2.1 = PP - rt3 (cx (cof n).2.2)) := by
  by_cases hp : n % 57896044618658097711785492504343953926634992332820282019728792003956564819968 < PP
  · rw [cof_yes n hp]
    cases hok : rtok (cx (n % 57896044618658097711785492504343953926634992332820282019728792003956564819968)) with
    | false => rw [bes_no1 _ _ _ hok]; left; show 0 = rt3 (cx 1); rw [cx_1, rt3_0]
    | true =>
      cases hev : decide (n / 57896044618658097711785492504343953926634992332820282019728792003956564819968 = 0) with
      | true => rw [bes_even _ _ hok]; exact .inl rfl
      | false =>
        by_cases h0 : rt3 (cx (n % 57896044618658097711785492504343953926634992332820282019728792003956564819968)) = 0
        · rw [bes_no2 _ _ h0]; left; show 0 = rt3 (cx 1); rw [cx_1, rt3_0]
        · rw [bes_odd _ _ hok h0]
          refine .inr ⟨h0, ?_⟩
          show (0 % PP + (PP - rt3 (cx (n % 57896044618658097711785492504343953926634992332820282019728792003956564819968)))) % PP = PP - rt3 (cx (n % 57896044618658097711785492504343953926634992332820282019728792003956564819968))
          have := rt3_lt (cx (n % 57896044618658097711785492504343953926634992332820282019728792003956564819968))
          obtain ⟨r, hr⟩ : ∃ r, r = rt3 (cx (n % 57896044618658097711785492504343953926634992332820282019728792003956564819968)) := ⟨_, rfl⟩
          rw [← hr] at this h0 ⊢
          rw [Nat.zero_mod, Nat.zero_add, Nat.mod_eq_of_lt (by omega)]
  · rw [cof_no n hp]; left; show 0 = rt3 (cx 1); rw [cx_1, rt3_0]
/-- points are the same where their texts are -/
theorem same_keys (n1 n2 : Nat) : (decide ((cof n1).2.1 * 1 % PP = (cof n2).2.1 * 1 % PP) && decide ((cof n1).2.2 * 1 % PP = (cof n2).2.2 * 1 % PP)) = decide (keyn (cof n1).2.1 (cof n1).2.2 1 = keyn (cof n2).2.1 (cof n2).2.2 1) := by
  obtain ⟨hx1, hy1⟩ := cof_lt n1
  obtain ⟨hx2, hy2⟩ := cof_lt n2
  have c1 := cof_x n1
  have c2 := cof_x n2
  obtain ⟨X1, e1⟩ : ∃ X, X = (cof n1).2.1 := ⟨_, rfl⟩
  obtain ⟨X2, e2⟩ : ∃ X, X = (cof n2).2.1 := ⟨_, rfl⟩
  obtain ⟨Y1, f1⟩ : ∃ X, X = (cof n1).2.2 := ⟨_, rfl⟩
  obtain ⟨Y2, f2⟩ : ∃ X, X = (cof n2).2.2 := ⟨_, rfl⟩
  rw [← e1, ← f1] at c1
  rw [← e2, ← f2] at c2
  rw [← e1] at hx1
  rw [← e2] at hx2
  rw [← f1] at hy1
  rw [← f2] at hy2
  rw [← e1, ← e2, ← f1, ← f2, keyn_one X1 Y1 hx1 hy1, keyn_one X2 Y2 hx2 hy2, Nat.mul_one, Nat.mul_one, Nat.mul_one, Nat.mul_one, Nat.mod_eq_of_lt hx1, Nat.mod_eq_of_lt hx2, Nat.mod_eq_of_lt hy1, Nat.mod_eq_of_lt hy2]
  have hp := PP_255
  by_cases hk : Y1 + X1 % 2 * 57896044618658097711785492504343953926634992332820282019728792003956564819968 = Y2 + X2 % 2 * 57896044618658097711785492504343953926634992332820282019728792003956564819968
  · have hy : Y1 = Y2 := by omega
    have hx : X1 % 2 = X2 % 2 := by omega
    subst hy
    have he := rt3_even (cx Y1)
    have hl := rt3_lt (cx Y1)
    have ho := PP_odd
    have hX : X1 = X2 := by
      rcases c1 with c1 | ⟨z1, c1⟩ <;> rcases c2 with c2 | ⟨z2, c2⟩ <;> omega
    rw [decide_eq_true hk, decide_eq_true hX, decide_eq_true rfl]; rfl
  · rw [decide_eq_false hk]
    by_cases hX : X1 = X2
    · by_cases hY : Y1 = Y2
      · exact absurd (by rw [hX, hY]) hk
      · rw [decide_eq_false hY, Bool.and_false]
    · rw [decide_eq_false hX, Bool.false_and]
end Go.Proofs.Ytjiagjonlcadiaa
