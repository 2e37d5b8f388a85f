/- Part of the proof that for every two keys the law CurveMany returns true; no condition. (part 8 of 8) -/
import Derived.Test.YtjiagjonlcadiaaRows
import Derived.WalkKit
import Derived.ProofKit
import Derived.OpenShut
import Derived.ShutString
import Derived.ChangeOld
import Derived.Below
import Derived.Test.YtjiagjonlcadiaaMa7
section
namespace Go.Proofs.Ytjiagjonlcadiaa
open Go.RowKit Go.Lib

theorem rp_there {w : World} {b : Nat} {t : TypeId} {x y z s : Nat} (h : Has w b (rp x y z s) t) (o : Nat) (ho : o + 22 ≤ 88) : w.there b o 22 := fun j hj => by
  rw [h.cellAt, h.frozen]
  have : o + j < (rp x y z s).size := by rw [rp_size]; omega
  simp [this]
theorem rp_setx {w : World} {b : Nat} {t : TypeId} {x y z s : Nat} (h : Has w b (rp x y z s) t) (x2 : Nat) : Has (w.setCells b 0 (r22 x2).toList) b (rp x2 y z s) t := by
  have := Has.setCells (r22l x2) (rp x y z s) 0 h (by rw [r22l_len, rp_size]; omega)
  rw [r22l_len] at this
  have e : (List.take 0 (rp x y z s).toList ++ r22l x2 ++ List.drop (0 + 22) (rp x y z s).toList).toArray = rp x2 y z s := by
    unfold rp
    simp only [List.take_zero, List.nil_append, Nat.zero_add, List.append_assoc]
    rw [show (22 : Nat) = (r22l x).length from (r22l_len x).symm, List.drop_left]
  rw [e] at this
  exact this
theorem rp_sett {w : World} {b : Nat} {t : TypeId} {x y z s : Nat} (h : Has w b (rp x y z s) t) (s2 : Nat) : Has (w.setCells b 66 (r22 s2).toList) b (rp x y z s2) t := by
  have := Has.setCells (r22l s2) (rp x y z s) 66 h (by rw [r22l_len, rp_size]; omega)
  rw [r22l_len] at this
  have e : (List.take 66 (rp x y z s).toList ++ r22l s2 ++ List.drop (66 + 22) (rp x y z s).toList).toArray = rp x y z s2 := by
    unfold rp
    have h66 : (66 : Nat) = (r22l x ++ r22l y ++ r22l z).length := by simp [r22l_len]
    have h88 : List.drop (66 + 22) (r22l x ++ r22l y ++ r22l z ++ r22l s) = [] := by
      apply List.drop_eq_nil_of_le; simp [r22l_len]
    rw [show ((r22l x ++ r22l y ++ r22l z ++ r22l s).toArray).toList = r22l x ++ r22l y ++ r22l z ++ r22l s from rfl, h88, h66, List.take_left, List.append_nil]
  rw [e] at this
  exact this

set_option maxRecDepth 100000 in
set_option linter.unusedSimpArgs false in
set_option maxHeartbeats 8000000 in
theorem turned_any (X Y Z T : Nat) (hX : X < PP) (hT : T < PP) (w : World) :
    Calls Try.prog 54 #[.agg (rp X Y Z T)] w fun e w' => e = .returned (.agg (rp (negP X) Y Z (negP T))) ∧ Below w.heap.size w w' := by
  have h1 := fun w => rminus_any 0 X PP_pos hX w
  have h2 := fun w => rminus_any 0 T PP_pos hT w
  obtain ⟨NX, hNX⟩ : ∃ n, n = negP X := ⟨_, rfl⟩
  obtain ⟨NT, hNT⟩ : ∃ n, n = negP T := ⟨_, rfl⟩
  rw [show (0 + (PP - X)) % PP = NX by rw [hNX]; unfold negP; rw [Nat.zero_mod]] at h1
  rw [show (0 + (PP - T)) % PP = NT by rw [hNT]; unfold negP; rw [Nat.zero_mod]] at h2
  rw [← hNX, ← hNT]
  clear hNX hNT hX hT
  have H1 := Lib.hid h1; clear h1
  have H2 := Lib.hid h2; clear h2
  go_enter Try.func54, Try.ntmps54
  repeat ((fail_if_success (with_reducible (show wpList _ _ _ _ _ _))); go_step)
  iterate 2 (refine wpList_step (fun K hK => ?_); go_simp; (try go_bits); refine hK _ _ ?_; clear hK K)
  refine wpList_nil ?_
  have M1 := Lib.hid ((Has.new w  (rp X Y Z T) 57).alloc (.cells Try.zeroCells57 57))
  have M2 := Lib.hid (HasN.new1 w (.cells (rp X Y Z T) 57) Try.zeroCells57 57 88 (by kernel_rfl))
  have HB := Lib.hid (below_2 w (.cells (rp X Y Z T) 57) (.cells Try.zeroCells57 57))
  obtain ⟨yw1, hwyw1⟩ : ∃ ww, ww = ((w.alloc (.cells (rp X Y Z T) 57)).alloc (.cells Try.zeroCells57 57)) := ⟨_, rfl⟩
  rw [← hwyw1] at M1 M2 HB ⊢
  clear hwyw1
  repeat ((fail_if_success (with_reducible (show wpList _ _ _ _ _ _))); go_step)
  refine wpList_built (by rfl) 40 _ rfl _ (by rfl) (r22 0) (bd40z) 3 rfl ?_
  (try simp only [Act.put, sI, sS, sZ])
  (refine wpList_step (fun K hK => ?_); go_simp; (try go_bits); refine hK _ _ ?_; clear hK K)
  refine wpList_loadm (by rfl) 40 _ rfl (w.heap.size) 0 rfl (r22l X) (r22 X) rfl (rp_x M1.out) _ Try.underlying40 rfl (by rw [r22l_len]; kernel_rfl) 5 rfl ?_
  (try simp only [Act.put, sI, sS, sZ])
  refine wpList_call (by rfl) rfl rfl (by rfl) ent40 (by rfl) (H1.out _) 6 rfl ?_
  rintro e uw1 ⟨rfl, hb⟩
  replace M1 := Lib.hid (M1.out.call hb)
  replace M2 := Lib.hid (M2.out.call hb)
  replace HB := Lib.hid (held_next HB.out hb)
  refine ⟨_, rfl, ?_⟩
  clear hb
  (try simp only [Act.put, sI, sS, sZ])
  (refine wpList_step (fun K hK => ?_); go_simp; (try go_bits); refine hK _ _ ?_; clear hK K)
  
  refine wpList_store_mid rfl 40 _ _ rfl (w.heap.size) 0 (r22 NX) rfl rfl (by rw [r22_size]; exact rp_there M1.out 0 (by omega)) (by rw [r22_size]; kernel_rfl) (row_one _ _ _) ?_
  (try simp only [Act.put, sI, sS, sZ])
  replace M2 := Lib.hid (M2.out.setCells_other (w.heap.size) 0 (r22 NX).toList (by omega))
  replace HB := Lib.hid (below_setCells (w.heap.size) (by omega) (r22 NX).toList _ 0 HB.out)
  replace M1 := Lib.hid (rp_setx M1.out NX)
  obtain ⟨yw2, hwyw2⟩ : ∃ ww, ww = uw1.setCells (w.heap.size) 0 (r22 NX).toList := ⟨_, rfl⟩
  rw [← hwyw2] at M1 M2 HB ⊢
  clear hwyw2
  refine wpList_nil ?_
  repeat ((fail_if_success (with_reducible (show wpList _ _ _ _ _ _))); go_step)
  refine wpList_built (by rfl) 40 _ rfl _ (by rfl) (r22 0) (bd40z) 8 rfl ?_
  (try simp only [Act.put, sI, sS, sZ])
  (refine wpList_step (fun K hK => ?_); go_simp; (try go_bits); refine hK _ _ ?_; clear hK K)
  refine wpList_loadm (by rfl) 40 _ rfl (w.heap.size) 66 rfl (r22l T) (r22 T) rfl (rp_t M1.out) _ Try.underlying40 rfl (by rw [r22l_len]; kernel_rfl) 10 rfl ?_
  (try simp only [Act.put, sI, sS, sZ])
  refine wpList_call (by rfl) rfl rfl (by rfl) ent40 (by rfl) (H2.out _) 11 rfl ?_
  rintro e uw2 ⟨rfl, hb⟩
  replace M1 := Lib.hid (M1.out.call hb)
  replace M2 := Lib.hid (M2.out.call hb)
  replace HB := Lib.hid (held_next HB.out hb)
  refine ⟨_, rfl, ?_⟩
  clear hb
  (try simp only [Act.put, sI, sS, sZ])
  (refine wpList_step (fun K hK => ?_); go_simp; (try go_bits); refine hK _ _ ?_; clear hK K)
  
  refine wpList_store_mid rfl 40 _ _ rfl (w.heap.size) 66 (r22 NT) rfl rfl (by rw [r22_size]; exact rp_there M1.out 66 (by omega)) (by rw [r22_size]; kernel_rfl) (row_one _ _ _) ?_
  (try simp only [Act.put, sI, sS, sZ])
  replace M2 := Lib.hid (M2.out.setCells_other (w.heap.size) 66 (r22 NT).toList (by omega))
  replace HB := Lib.hid (below_setCells (w.heap.size) (by omega) (r22 NT).toList _ 66 HB.out)
  replace M1 := Lib.hid (rp_sett M1.out NT)
  obtain ⟨yw3, hwyw3⟩ : ∃ ww, ww = uw2.setCells (w.heap.size) 66 (r22 NT).toList := ⟨_, rfl⟩
  rw [← hwyw3] at M1 M2 HB ⊢
  clear hwyw3
  refine wpList_nil ?_
  repeat ((fail_if_success (with_reducible (show wpList _ _ _ _ _ _))); go_step)
  refine wpList_load (by rfl) 57 _ rfl (w.heap.size) rfl 57 (rp NX Y Z NT) M1.out Try.underlying57 rfl (by rw [rp_size]; kernel_rfl) 13 rfl ?_
  (try simp only [Act.put, sI, sS, sZ])
  first | (obtain ⟨Zq, hZ, mZ⟩ := M2.out) | (obtain ⟨Zq, hZ, mZ⟩ := M2.out.toN (rp_size ..))
  refine wpList_store2 (by rfl) 57 _ _ rfl rfl (w.heap.size + 1) (rp NX Y Z NT) rfl rfl 57 Zq mZ (by rw [rp_size]; kernel_rfl) (hZ.trans (rp_size ..).symm) (rp_one _ _ _ _) ?_
  intro yw4 hw2
  have kq := M1.out.setRow_other (w.heap.size + 1) (rp NX Y Z NT) (by omega); rw [← hw2] at kq; clear M1; have M1 := Lib.hid kq; clear kq
  have kq := mZ.setRow (rp NX Y Z NT); rw [← hw2] at kq; clear M2; have M2 := Lib.hid kq; clear kq mZ hZ
  have kq := below_setRow HB.out (w.heap.size + 1) (rp NX Y Z NT) (by omega); rw [← hw2] at kq; clear HB; have HB := Lib.hid kq; clear kq hw2
  refine wpList_nil ?_
  go_wp2_with fail
  exact bodyPost_ret (v := .agg (rp NX Y Z NT)) (results_cell_row (t := 57) (by rfl) _ _ (w.heap.size + 1) _ _ _ rfl M2.out Try.underlying57 rfl (by rw [rp_size]; kernel_rfl)) rfl ⟨rfl, HB.out⟩

theorem mo_sub (a b c : Nat) (hb : b ≤ PP) (h : a % PP = (c + b) % PP) : (a + (PP - b)) % PP = c % PP := by
  rw [mo_add_l a (c + b) _ h, Nat.add_assoc, show b + (PP - b) = PP by omega, Nat.add_mod_right]
theorem cross_agree (X1 Y1 X2 Y2 : Nat) : (((X1 + Y1) % PP * ((X2 + Y2) % PP) % PP + (PP - X1 * X2 % PP)) % PP + (PP - Y1 * Y2 % PP)) % PP = (X1 * Y2 % PP + Y1 * X2 % PP) % PP := by
  have hx : X1 * X2 % PP ≤ PP := Nat.le_of_lt (Nat.mod_lt _ PP_pos)
  have hy : Y1 * Y2 % PP ≤ PP := Nat.le_of_lt (Nat.mod_lt _ PP_pos)
  have e : (X1 + Y1) * (X2 + Y2) = X1 * Y2 + Y1 * X2 + Y1 * Y2 + X1 * X2 := by
    rw [Nat.add_mul, Nat.mul_add, Nat.mul_add]; omega
  have s1 : ((X1 + Y1) % PP * ((X2 + Y2) % PP) % PP + (PP - X1 * X2 % PP)) % PP = (X1 * Y2 + Y1 * X2 + Y1 * Y2) % PP := by
    refine mo_sub _ _ _ hx ?_
    rw [Nat.mod_mod, ← Nat.mul_mod, e, Nat.add_mod_mod]
  rw [← Nat.add_mod (X1 * Y2)]
  refine mo_sub _ _ _ hy ?_
  rw [Nat.mod_mod, s1, Nat.add_mod_mod]
theorem sums_agree (X1 Y1 X2 Y2 T2 : Nat) (hT2 : T2 = X2 * Y2 % PP) :
    padd SL X1 Y1 1 X2 Y2 1 = ((radd X1 Y1 1 (X1 * Y1 % PP) X2 Y2 1 T2).1, (radd X1 Y1 1 (X1 * Y1 % PP) X2 Y2 1 T2).2.1, (radd X1 Y1 1 (X1 * Y1 % PP) X2 Y2 1 T2).2.2.1) := by
  have h1 : 1 * 1 % PP = 1 := one_PP
  have hE : SL * (X1 * X2 % PP) % PP * (Y1 * Y2 % PP) % PP = SL * (X1 * Y1 % PP * T2 % PP) % PP := by
    rw [hT2]
    simp only [Nat.mod_mul_mod, Nat.mul_mod_mod]
    congr 1; ac_rfl
  have hC := cross_agree X1 Y1 X2 Y2
  unfold padd radd
  simp only [h1, hE, hC, Nat.one_mul, Nat.mod_mod]
  rw [Nat.mul_comm ((X1 * Y2 % PP + Y1 * X2 % PP) % PP)]
theorem neg_prod (X Y : Nat) (hX : X < PP) : negP (X * Y % PP) = negP X * Y % PP := by
  unfold negP
  rw [Nat.zero_mod, Nat.zero_add, Nat.zero_add, Nat.mod_mul_mod, Nat.mul_comm (PP - X) Y, neg_mul Y X hX, Nat.mul_comm Y X]
theorem rt3_0 : rt3 0 = 0 := by
  have h := rt3_sq 0 (rtok_zero 0 rfl)
  rcases no_zero _ _ h with h | h <;> rwa [Nat.mod_eq_of_lt (rt3_lt 0)] at h
/-- what a point's x is: the even root, or the odd one -/
theorem cof_x (n : Nat) : (cof n).2.1 = rt3 (cx (cof n).2.2) ∨ (rt3 (cx (cof n).2.2) ≠ 0 ∧ (cof n).2.1 = PP - rt3 (cx (cof n).2.2)) := by
  by_cases hp : n % 57896044618658097711785492504343953926634992332820282019728792003956564819968 < PP
  · rw [cof_yes n hp]
    cases hok : rtok (cx (n % 57896044618658097711785492504343953926634992332820282019728792003956564819968)) with
    | false => rw [bes_no1 _ _ _ hok]; left; show 0 = rt3 (cx 1); rw [cx_1, rt3_0]
    | true =>
      cases hev : decide (n / 57896044618658097711785492504343953926634992332820282019728792003956564819968 = 0) with
      | true => rw [bes_even _ _ hok]; exact .inl rfl
      | false =>
        by_cases h0 : rt3 (cx (n % 57896044618658097711785492504343953926634992332820282019728792003956564819968)) = 0
        · rw [bes_no2 _ _ h0]; left; show 0 = rt3 (cx 1); rw [cx_1, rt3_0]
        · rw [bes_odd _ _ hok h0]
          refine .inr ⟨h0, ?_⟩
          show (0 % PP + (PP - rt3 (cx (n % 57896044618658097711785492504343953926634992332820282019728792003956564819968)))) % PP = PP - rt3 (cx (n % 57896044618658097711785492504343953926634992332820282019728792003956564819968))
          have := rt3_lt (cx (n % 57896044618658097711785492504343953926634992332820282019728792003956564819968))
          obtain ⟨r, hr⟩ : ∃ r, r = rt3 (cx (n % 57896044618658097711785492504343953926634992332820282019728792003956564819968)) := ⟨_, rfl⟩
          rw [← hr] at this h0 ⊢
          rw [Nat.zero_mod, Nat.zero_add, Nat.mod_eq_of_lt (by omega)]
  · rw [cof_no n hp]; left; show 0 = rt3 (cx 1); rw [cx_1, rt3_0]
/-- points are the same where their texts are -/
theorem same_keys (n1 n2 : Nat) : (decide ((cof n1).2.1 * 1 % PP = (cof n2).2.1 * 1 % PP) && decide ((cof n1).2.2 * 1 % PP = (cof n2).2.2 * 1 % PP)) = decide (keyn (cof n1).2.1 (cof n1).2.2 1 = keyn (cof n2).2.1 (cof n2).2.2 1) := by
  obtain ⟨hx1, hy1⟩ := cof_lt n1
  obtain ⟨hx2, hy2⟩ := cof_lt n2
  have c1 := cof_x n1
  have c2 := cof_x n2
  obtain ⟨X1, e1⟩ : ∃ X, X = (cof n1).2.1 := ⟨_, rfl⟩
  obtain ⟨X2, e2⟩ : ∃ X, X = (cof n2).2.1 := ⟨_, rfl⟩
  obtain ⟨Y1, f1⟩ : ∃ X, X = (cof n1).2.2 := ⟨_, rfl⟩
  obtain ⟨Y2, f2⟩ : ∃ X, X = (cof n2).2.2 := ⟨_, rfl⟩
  rw [← e1, ← f1] at c1
  rw [← e2, ← f2] at c2
  rw [← e1] at hx1
  rw [← e2] at hx2
  rw [← f1] at hy1
  rw [← f2] at hy2
  rw [← e1, ← e2, ← f1, ← f2, keyn_one X1 Y1 hx1 hy1, keyn_one X2 Y2 hx2 hy2, Nat.mul_one, Nat.mul_one, Nat.mul_one, Nat.mul_one, Nat.mod_eq_of_lt hx1, Nat.mod_eq_of_lt hx2, Nat.mod_eq_of_lt hy1, Nat.mod_eq_of_lt hy2]
  have hp := PP_255
  by_cases hk : Y1 + X1 % 2 * 57896044618658097711785492504343953926634992332820282019728792003956564819968 = Y2 + X2 % 2 * 57896044618658097711785492504343953926634992332820282019728792003956564819968
  · have hy : Y1 = Y2 := by omega
    have hx : X1 % 2 = X2 % 2 := by omega
    subst hy
    have he := rt3_even (cx Y1)
    have hl := rt3_lt (cx Y1)
    have ho := PP_odd
    have hX : X1 = X2 := by
      rcases c1 with c1 | ⟨z1, c1⟩ <;> rcases c2 with c2 | ⟨z2, c2⟩ <;> omega
    rw [decide_eq_true hk, decide_eq_true hX, decide_eq_true rfl]; rfl
  · rw [decide_eq_false hk]
    by_cases hX : X1 = X2
    · by_cases hY : Y1 = Y2
      · exact absurd (by rw [hX, hY]) hk
      · rw [decide_eq_false hY, Bool.and_false]
    · rw [decide_eq_false hX, Bool.false_and]
end Go.Proofs.Ytjiagjonlcadiaa
end
section
namespace Go.Proofs.Ytjiagjonlcadiaa
open Go.RowKit Go.Lib

/-- a point's opposite -/
def negA (p : Fin PP × Fin PP) : Fin PP × Fin PP := (-p.1, p.2)
/-- a point comes back: this one of the group -/
def PtG (p : Fin PP × Fin PP) (w : World) (e : Ending) (w' : World) : Prop := ∃ x y z b, PtA x y z b p ∧ e = .returned (.agg (pt x y z b)) ∧ Below w.heap.size w w'
/-- the reference's point comes back -/
def RqG (p : Fin PP × Fin PP) (w : World) (e : Ending) (w' : World) : Prop := ∃ X Y Z T : Nat, Rq X Y Z T p ∧ e = .returned (.agg (rp X Y Z T)) ∧ Below w.heap.size w w'
theorem ptp_g {X Y Z : Nat} {p : Fin PP × Fin PP} (h : Rep X Y Z p) {w w' : World} {e : Ending} (hp : PtP X Y Z w e w') : PtG p w e w' :=
  let ⟨x, y, z, b, h1, h2, h3⟩ := hp; ⟨x, y, z, b, ⟨X, Y, Z, h1, h⟩, h2, h3⟩
theorem g_gen (w : World) : Calls Try.prog 58 #[] w (PtG gG w) := (gen_any w).mono fun _ _ h => ptp_g gen_rep h
theorem g_plus (x1 y1 z1 : Nat) (b1 : Bool) (p : Fin PP × Fin PP) (h1 : PtA x1 y1 z1 b1 p) (x2 y2 z2 : Nat) (b2 : Bool) (q : Fin PP × Fin PP) (h2 : PtA x2 y2 z2 b2 q) (w : World) :
    Calls Try.prog 51 #[.agg (pt x1 y1 z1 b1), .agg (pt x2 y2 z2 b2)] w (PtG (padA finv fd p q) w) := by
  obtain ⟨X1, Y1, Z1, i1, r1⟩ := h1
  obtain ⟨X2, Y2, Z2, i2, r2⟩ := h2
  exact (pplus_any x1 y1 z1 b1 X1 Y1 Z1 i1 x2 y2 z2 b2 X2 Y2 Z2 i2 w).mono fun _ _ h => ptp_g (padd_rep _ _ _ _ _ _ p q r1 r2) h
theorem ispt_lt {x y z : Nat} {b : Bool} {X Y Z : Nat} (h : IsPt x y z b X Y Z) : X < PP := by
  obtain ⟨_, ⟨_, hx, _⟩ | ⟨_, hx, _⟩⟩ := h <;> (rw [← hx]; exact Nat.mod_lt _ PP_pos)
theorem g_minus (x1 y1 z1 : Nat) (b1 : Bool) (p : Fin PP × Fin PP) (h1 : PtA x1 y1 z1 b1 p) (x2 y2 z2 : Nat) (b2 : Bool) (q : Fin PP × Fin PP) (h2 : PtA x2 y2 z2 b2 q) (w : World) :
    Calls Try.prog 53 #[.agg (pt x1 y1 z1 b1), .agg (pt x2 y2 z2 b2)] w (PtG (padA finv fd p (negA q)) w) := by
  obtain ⟨X1, Y1, Z1, i1, r1⟩ := h1
  obtain ⟨X2, Y2, Z2, i2, r2⟩ := h2
  exact (pminus_any x1 y1 z1 b1 X1 Y1 Z1 i1 x2 y2 z2 b2 X2 Y2 Z2 i2 w).mono fun _ _ h => ptp_g (padd_rep _ _ _ _ _ _ p (negA q) r1 (neg_rep X2 Y2 Z2 q r2 (ispt_lt i2))) h
theorem g_key (x y z : Nat) (b : Bool) (p : Fin PP × Fin PP) (h : PtA x y z b p) (w : World) :
    Calls Try.prog 49 #[.agg (pt x y z b)] w fun e w' => e = .returned (.agg (k32 (keyP p))) ∧ Below w.heap.size w w' := by
  obtain ⟨X, Y, Z, i, r⟩ := h
  have := pkey_any x y z b X Y Z i w
  rw [keyn_rep X Y Z p r] at this
  exact this
theorem g_is (x1 y1 z1 : Nat) (b1 : Bool) (p : Fin PP × Fin PP) (h1 : PtA x1 y1 z1 b1 p) (x2 y2 z2 : Nat) (b2 : Bool) (q : Fin PP × Fin PP) (h2 : PtA x2 y2 z2 b2 q) (w : World) :
    Calls Try.prog 55 #[.agg (pt x1 y1 z1 b1), .agg (pt x2 y2 z2 b2)] w fun e w' => e = .returned (.bool (decide (p = q))) ∧ Below w.heap.size w w' := by
  obtain ⟨X1, Y1, Z1, i1, r1⟩ := h1
  obtain ⟨X2, Y2, Z2, i2, r2⟩ := h2
  have := pis_any x1 y1 z1 b1 X1 Y1 Z1 i1 x2 y2 z2 b2 X2 Y2 Z2 i2 w
  rw [is_rep X1 Y1 Z1 X2 Y2 Z2 p q r1 r2] at this
  exact this
theorem keyP_lt (p : Fin PP × Fin PP) : keyP p < 115792089237316195423570985008687907853269984665640564039457584007913129639936 := by
  have h1 := p.2.isLt
  have h2 : p.1.val % 2 < 2 := Nat.mod_lt _ (by decide)
  have := PP_255
  unfold keyP; omega
/-- the point of a text, the origin where there is none -/
def cofP (n : Nat) : Fin PP × Fin PP := (fi (cof n).2.1, fi (cof n).2.2)
theorem cofP_on (n : Nat) : OnP fd (cofP n) := (cof_rep n).2.2.2
theorem cofP_key (p : Fin PP × Fin PP) (h : OnP fd p) : cofP (keyP p) = p := by
  unfold cofP; rw [cof_keyP p h]; exact Prod.ext (fi_val _) (fi_val _)
theorem g_of (n : Nat) (hn : n < 115792089237316195423570985008687907853269984665640564039457584007913129639936) (w : World) :
    Calls Try.prog 47 #[.agg (k32 n)] w fun e w' => ∃ x y z b, PtA x y z b (cofP n) ∧ e = .returned (.tuple #[.agg (pt x y z b), .bool (cof n).1]) ∧ Below w.heap.size w w' := by
  refine (pof_any n hn w).mono ?_
  rintro e w' ⟨x, y, z, b, h1, h2, h3⟩
  rw [one_PP] at h1
  exact ⟨x, y, z, b, ⟨_, _, _, h1, cof_rep n⟩, h2, h3⟩
theorem g_ofk (p : Fin PP × Fin PP) (h : OnP fd p) (w : World) :
    Calls Try.prog 47 #[.agg (k32 (keyP p))] w fun e w' => ∃ x y z b, PtA x y z b p ∧ e = .returned (.tuple #[.agg (pt x y z b), .bool true]) ∧ Below w.heap.size w w' := by
  have := g_of (keyP p) (keyP_lt p) w
  rw [cofP_key p h, show (cof (keyP p)).1 = true by rw [cof_keyP p h]] at this
  exact this
theorem g_many (x y z n : Nat) (b : Bool) (p : Fin PP × Fin PP) (hp : PtA x y z b p) (hn : n < 115792089237316195423570985008687907853269984665640564039457584007913129639936) (w : World) :
    Calls Try.prog 56 #[.agg (pt x y z b), .agg (k32 n)] w (PtG (mulA finv fd p n) w) := pmany_any x y z n b p hp hn w
theorem gr_of (n : Nat) (hn : n < 115792089237316195423570985008687907853269984665640564039457584007913129639936) (w : World) :
    Calls Try.prog 48 #[.agg (k32 n)] w fun e w' => ∃ X Y Z T : Nat, Rq X Y Z T (cofP n) ∧ e = .returned (.tuple #[.agg (rp X Y Z T), .bool (cof n).1]) ∧ Below w.heap.size w w' := by
  refine (rofp_any n hn w).mono ?_
  rintro e w' ⟨h1, h2⟩
  obtain ⟨lx, ly⟩ := cof_lt n
  refine ⟨_, _, _, _, ⟨⟨cof_rep n, ?_⟩, lx, ly, by have := PP_val; omega, Nat.mod_lt _ PP_pos⟩, h1, h2⟩
  rw [fi_mod, fi_mul, fi_one]
  show _ = fi (cof n).2.1 * fi (cof n).2.2 * 1
  grind
theorem gr_key (X Y Z T : Nat) (p : Fin PP × Fin PP) (h : Rq X Y Z T p) (w : World) :
    Calls Try.prog 50 #[.agg (rp X Y Z T)] w fun e w' => e = .returned (.agg (k32 (keyP p))) ∧ Below w.heap.size w w' := by
  obtain ⟨⟨r, _⟩, x, y, z, _⟩ := h
  have := rkeyp_any X Y Z T x y z w
  rw [keyn_rep X Y Z p r] at this
  exact this
theorem gr_many (X Y Z T n : Nat) (p : Fin PP × Fin PP) (hp : Rq X Y Z T p) (hn : n < 115792089237316195423570985008687907853269984665640564039457584007913129639936) (w : World) :
    Calls Try.prog 57 #[.agg (rp X Y Z T), .agg (k32 n)] w (RqG (mulA finv fd p n) w) := rmany_any X Y Z T n p hp hn w
theorem gr_plus (X1 Y1 Z1 T1 X2 Y2 Z2 T2 : Nat) (p q : Fin PP × Fin PP) (hp : Rq X1 Y1 Z1 T1 p) (hq : Rq X2 Y2 Z2 T2 q) (w : World) :
    Calls Try.prog 52 #[.agg (rp X1 Y1 Z1 T1), .agg (rp X2 Y2 Z2 T2)] w (RqG (padA finv fd p q) w) := radd_rq X1 Y1 Z1 T1 X2 Y2 Z2 T2 p q hp hq w
theorem gr_turned (X Y Z T : Nat) (p : Fin PP × Fin PP) (h : Rq X Y Z T p) (w : World) :
    Calls Try.prog 54 #[.agg (rp X Y Z T)] w (RqG (negA p) w) := by
  obtain ⟨⟨r, t⟩, x, y, z, lt⟩ := h
  refine (turned_any X Y Z T x lt w).mono ?_
  rintro e w' ⟨h1, h2⟩
  refine ⟨_, _, _, _, ⟨⟨neg_rep X Y Z p r x, ?_⟩, Nat.mod_lt _ PP_pos, y, z, Nat.mod_lt _ PP_pos⟩, h1, h2⟩
  have h := fi_neg T
  rw [Nat.mod_eq_of_lt lt] at h
  rw [Nat.zero_mod, Nat.zero_add, fi_mod, h, t]
  show -(p.1 * p.2 * fi Z) = -p.1 * p.2 * fi Z
  grind
/-- the generator's multiples: only the rest by the order counts -/
theorem gG_on : OnP fd gG := gen_rep.2.2.2
theorem mul_LL : mulA finv fd gG LL = (0, 1) := by
  have h := pmul_rep (GX, GY, 1) gG gen_rep 253 LL (by decide +kernel)
  obtain ⟨hx, hy, hz, _⟩ := h
  obtain ⟨o1, o2⟩ := order_val
  have e1 : fi (pmul (GX, GY, 1) 253 LL).1 = 0 := by rw [← fi_zero]; exact (fi_eq _ _).2 (o1.trans (Nat.zero_mod _).symm)
  have e2 : fi (pmul (GX, GY, 1) 253 LL).2.1 = fi (pmul (GX, GY, 1) 253 LL).2.2 := (fi_eq _ _).2 o2
  rw [e1] at hx
  rw [e2] at hy
  refine Prod.ext ?_ ?_
  · exact (fld.dom _ _ hx.symm).resolve_right hz
  · exact fld.cancel _ _ _ hz (by rw [← hy]; grind)
theorem mul_rest (n : Nat) : mulA finv fd gG (n % LL) = mulA finv fd gG n := by
  have h : mulA finv fd gG n = padA finv fd (mulA finv fd gG (LL * (n / LL))) (mulA finv fd gG (n % LL)) := by
    rw [← fld.mul_add gG gG_on, Nat.div_add_mod]
  rw [h, ← fld.mul_mul gG gG_on, mul_LL]
  have h0 : ∀ k, mulA finv fd ((0, 1) : Fin PP × Fin PP) k = (0, 1) := by
    intro k
    induction k with
    | zero => rfl
    | succ k ih => show padA finv fd (mulA finv fd (0, 1) k) (0, 1) = (0, 1); rw [ih, fld.add_zero _ on_zero]
  rw [h0, fld.zero_add _ (fld.on_mul gG gG_on _)]
end Go.Proofs.Ytjiagjonlcadiaa
end
section
namespace Go.Proofs.Ytjiagjonlcadiaa
open Go.RowKit Go.Lib

set_option maxRecDepth 100000 in
set_option linter.unusedSimpArgs false in
set_option maxHeartbeats 8000000 in
theorem law_curveMany (n1 n2 : Nat) (hn1 : n1 < 115792089237316195423570985008687907853269984665640564039457584007913129639936) (hn2 : n2 < 115792089237316195423570985008687907853269984665640564039457584007913129639936) (w : World) :
    Calls Try.prog 14 #[.agg (k32 n1), .agg (k32 n2)] w fun e w' => e = .returned (.bool true) ∧ Below w.heap.size w w' := by
  have hal := law4_alive
  have hof := fun w => g_of n1 hn1 w
  have hro := fun w => gr_of n1 hn1 w
  obtain ⟨ok, hok⟩ : ∃ b, b = (cof n1).1 := ⟨_, rfl⟩
  obtain ⟨p, hp⟩ : ∃ p, p = cofP n1 := ⟨_, rfl⟩
  simp only [← hok, ← hp] at hof hro
  have hm := fun x y z b h w => g_many x y z n2 b p h hn2 w
  have hrm := fun X Y Z T h w => gr_many X Y Z T n2 p h hn2 w
  obtain ⟨q, hq⟩ : ∃ q, q = mulA finv fd p n2 := ⟨_, rfl⟩
  simp only [← hq] at hm hrm
  have hk := fun x y z b h w => g_key x y z b q h w
  have hrk := fun X Y Z T h w => gr_key X Y Z T q h w
  have hkl := keyP_lt q
  obtain ⟨K, hK⟩ : ∃ k, k = keyP q := ⟨_, rfl⟩
  simp only [← hK] at hk hrk hkl
  have heq := fun w => k32_same K hkl w
  clear hok hp hq hK hkl hn1 hn2
  have Hal := Lib.hid hal; clear hal
  have Hof := Lib.hid hof; clear hof
  have Hro := Lib.hid hro; clear hro
  have Hm := Lib.hid hm; clear hm
  have Hrm := Lib.hid hrm; clear hrm
  have Hk := Lib.hid hk; clear hk
  have Hrk := Lib.hid hrk; clear hrk
  have Heq := Lib.hid heq; clear heq
  go_enter Try.func14, Try.ntmps14
  repeat ((fail_if_success (with_reducible (show wpList _ _ _ _ _ _))); go_step)
  iterate 3 (refine wpList_step (fun K hK => ?_); go_simp; (try go_bits); refine hK _ _ ?_; clear hK K)
  refine wpList_nil ?_
  have M2 := Lib.hid ((Has.new w  (k32 n1) 24).alloc (.cells (k32 n2) 24))
  have M3 := Lib.hid (Has.new1 w (.cells (k32 n1) 24) (k32 n2) 24)
  have HB := Lib.hid (below_2 w (.cells (k32 n1) 24) (.cells (k32 n2) 24))
  obtain ⟨yw1, hwyw1⟩ : ∃ ww, ww = ((w.alloc (.cells (k32 n1) 24)).alloc (.cells (k32 n2) 24)) := ⟨_, rfl⟩
  rw [← hwyw1] at M2 M3 HB ⊢
  clear hwyw1
  repeat ((fail_if_success (with_reducible (show wpList _ _ _ _ _ _))); go_step)
  refine wpList_call (by rfl) rfl rfl (by rfl) ent46 (by rfl) (Hal.out _) 9 rfl ?_
  rintro e uw1 ⟨rfl, hb⟩
  replace M2 := Lib.hid (M2.out.call hb)
  replace M3 := Lib.hid (M3.out.call hb)
  replace HB := Lib.hid (held_next HB.out hb)
  refine ⟨_, rfl, ?_⟩
  clear hb
  (try simp only [Act.put, sI, sS, sZ])
  (refine wpList_step (fun K hK => ?_); go_simp; (try go_bits); refine hK _ _ ?_; clear hK K)
  refine wpList_nil ?_
  repeat ((fail_if_success (with_reducible (show wpList _ _ _ _ _ _))); go_step)
  refine wpList_load (by rfl) 24 _ rfl (w.heap.size) rfl 24 (k32 n1) M2.out Try.underlying24 rfl (by rw [k32_size]; kernel_rfl) 12 rfl ?_
  (try simp only [Act.put, sI, sS, sZ])
  refine wpList_call (by rfl) rfl rfl (by rfl) ent47 (by rfl) (Hof.out _) 13 rfl ?_
  rintro e uw2 ⟨x1, y1, c1, b1, p1, rfl, hb⟩
  replace M2 := Lib.hid (M2.out.call hb)
  replace M3 := Lib.hid (M3.out.call hb)
  replace HB := Lib.hid (held_next HB.out hb)
  refine ⟨_, rfl, ?_⟩
  clear hb
  (try simp only [Act.put, sI, sS, sZ])
  iterate 3 (refine wpList_step (fun K hK => ?_); go_simp; (try go_bits); refine hK _ _ ?_; clear hK K)
  refine wpList_alloc (by rfl) 53 rfl _ al53 5 rfl ?_
  intro yw2 hw2
  have hlt3 := M2.out.lt
  have hlt4 := M3.out.lt
  have hsz := HB.out.size
  have kq := M2.out.alloc (.cells z53 53); rw [← hw2] at kq; clear M2; have M2 := Lib.hid kq; clear kq
  have kq := M3.out.alloc (.cells z53 53); rw [← hw2] at kq; clear M3; have M3 := Lib.hid kq; clear kq
  have kq := HasN.new uw2 z53 53 13 (by kernel_rfl); rw [← hw2] at kq; have M5 := Lib.hid kq; clear kq
  have kq := HB.out.alloc hsz (.cells z53 53); rw [← hw2] at kq; clear HB; have HB := Lib.hid kq; clear kq hw2
  (try simp only [Act.put, sI, sS, sZ])
  first | (obtain ⟨Zq, hZ, mZ⟩ := M5.out) | (obtain ⟨Zq, hZ, mZ⟩ := M5.out.toN (pt_size ..))
  refine wpList_store2 (by rfl) 53 _ _ rfl rfl (uw2.heap.size) (pt x1 y1 c1 b1) rfl rfl 53 Zq mZ (by rw [pt_size]; kernel_rfl) (hZ.trans (pt_size ..).symm) (pt_one _ _ _ _) ?_
  intro yw5 hw2
  have kq := M2.out.setRow_other (uw2.heap.size) (pt x1 y1 c1 b1) (by omega); rw [← hw2] at kq; clear M2; have M2 := Lib.hid kq; clear kq
  have kq := M3.out.setRow_other (uw2.heap.size) (pt x1 y1 c1 b1) (by omega); rw [← hw2] at kq; clear M3; have M3 := Lib.hid kq; clear kq
  have kq := mZ.setRow (pt x1 y1 c1 b1); rw [← hw2] at kq; clear M5; have M5 := Lib.hid kq; clear kq mZ hZ
  have kq := below_setRow HB.out (uw2.heap.size) (pt x1 y1 c1 b1) (by omega); rw [← hw2] at kq; clear HB; have HB := Lib.hid kq; clear kq hw2
  (refine wpList_step (fun K hK => ?_); go_simp; (try go_bits); refine hK _ _ ?_; clear hK K)
  refine wpList_nil ?_
  have P1 := Lib.hid p1; clear p1
  repeat ((fail_if_success (with_reducible (show wpList _ _ _ _ _ _))); go_step)
  refine wpList_load (by rfl) 24 _ rfl (w.heap.size) rfl 24 (k32 n1) M2.out Try.underlying24 rfl (by rw [k32_size]; kernel_rfl) 17 rfl ?_
  (try simp only [Act.put, sI, sS, sZ])
  refine wpList_call (by rfl) rfl rfl (by rfl) ent48 (by rfl) (Hro.out _) 18 rfl ?_
  rintro e uw3 ⟨X1, Y1, Z1, T1, r1, rfl, hb⟩
  replace M2 := Lib.hid (M2.out.call hb)
  replace M3 := Lib.hid (M3.out.call hb)
  replace M5 := Lib.hid (M5.out.call hb)
  replace HB := Lib.hid (held_next HB.out hb)
  refine ⟨_, rfl, ?_⟩
  clear hb
  (try simp only [Act.put, sI, sS, sZ])
  iterate 3 (refine wpList_step (fun K hK => ?_); go_simp; (try go_bits); refine hK _ _ ?_; clear hK K)
  refine wpList_alloc (by rfl) 57 rfl _ al57 7 rfl ?_
  intro yw6 hw2
  have hlt7 := M2.out.lt
  have hlt8 := M3.out.lt
  have hlt9 := M5.out.lt
  have hsz := HB.out.size
  have kq := M2.out.alloc (.cells Try.zeroCells57 57); rw [← hw2] at kq; clear M2; have M2 := Lib.hid kq; clear kq
  have kq := M3.out.alloc (.cells Try.zeroCells57 57); rw [← hw2] at kq; clear M3; have M3 := Lib.hid kq; clear kq
  have kq := M5.out.alloc (.cells Try.zeroCells57 57); rw [← hw2] at kq; clear M5; have M5 := Lib.hid kq; clear kq
  have kq := HasN.new uw3 Try.zeroCells57 57 88 (by kernel_rfl); rw [← hw2] at kq; have M7 := Lib.hid kq; clear kq
  have kq := HB.out.alloc hsz (.cells Try.zeroCells57 57); rw [← hw2] at kq; clear HB; have HB := Lib.hid kq; clear kq hw2
  (try simp only [Act.put, sI, sS, sZ])
  first | (obtain ⟨Zq, hZ, mZ⟩ := M7.out) | (obtain ⟨Zq, hZ, mZ⟩ := M7.out.toN (rp_size ..))
  refine wpList_store2 (by rfl) 57 _ _ rfl rfl (uw3.heap.size) (rp X1 Y1 Z1 T1) rfl rfl 57 Zq mZ (by rw [rp_size]; kernel_rfl) (hZ.trans (rp_size ..).symm) (rp_one _ _ _ _) ?_
  intro yw10 hw2
  have kq := M2.out.setRow_other (uw3.heap.size) (rp X1 Y1 Z1 T1) (by omega); rw [← hw2] at kq; clear M2; have M2 := Lib.hid kq; clear kq
  have kq := M3.out.setRow_other (uw3.heap.size) (rp X1 Y1 Z1 T1) (by omega); rw [← hw2] at kq; clear M3; have M3 := Lib.hid kq; clear kq
  have kq := M5.out.setRow_other (uw3.heap.size) (rp X1 Y1 Z1 T1) (by omega); rw [← hw2] at kq; clear M5; have M5 := Lib.hid kq; clear kq
  have kq := mZ.setRow (rp X1 Y1 Z1 T1); rw [← hw2] at kq; clear M7; have M7 := Lib.hid kq; clear kq mZ hZ
  have kq := below_setRow HB.out (uw3.heap.size) (rp X1 Y1 Z1 T1) (by omega); rw [← hw2] at kq; clear HB; have HB := Lib.hid kq; clear kq hw2
  (refine wpList_step (fun K hK => ?_); go_simp; (try go_bits); refine hK _ _ ?_; clear hK K)
  refine wpList_nil ?_
  have R1 := Lib.hid r1; clear r1
  repeat ((fail_if_success (with_reducible (show wpList _ _ _ _ _ _))); go_step)
  have heq := Heq.out
  refine wp_region_noPanic ?_
  refine wp_region_go 99 15 #[ff,ff,ff,ff,ff,ff,ff,ff,ff,ff,ff,ff,ff,ff,ff] (by kernel_rfl) rfl rfl ?_
  intro W11 hW11
  have kq := M2.out; rw [← hW11] at kq; clear M2; have M2 := Lib.hid kq; clear kq
  have kq := M3.out; rw [← hW11] at kq; clear M3; have M3 := Lib.hid kq; clear kq
  have kq := M5.out; rw [← hW11] at kq; clear M5; have M5 := Lib.hid kq; clear kq
  have kq := M7.out; rw [← hW11] at kq; clear M7; have M7 := Lib.hid kq; clear kq
  have kq := HB.out; rw [← hW11] at kq; clear HB; have HB := Lib.hid kq; clear kq
  clear hW11
  refine go_take2 0 21 #[tt,ff,ff,ff,ff,ff,ff,ff,ff,ff,ff,ff,ff,ff,ff] (v := ?uv1) rfl rfl rfl (by kernel_rfl) (Or.inl ⟨by rfl, ?uy1⟩) ((below_dr W11)) ?urest1
  case uy1 => (intro _ _; go_simp; try with_reducible rfl)
  (try simp only [sI, sS, sZ])
  refine go_take2 1 22 #[tt,tt,ff,ff,ff,ff,ff,ff,ff,ff,ff,ff,ff,ff,ff] (v := ?uv2) rfl rfl rfl (by kernel_rfl) (Or.inl ⟨by rfl, ?uy2⟩) ((below_dr W11)) ?urest2
  case uy2 => (intro _ _; go_simp; try with_reducible rfl)
  (try simp only [sI, sS, sZ])
  refine go_take2 2 23 #[tt,tt,tt,ff,ff,ff,ff,ff,ff,ff,ff,ff,ff,ff,ff] (v := ?uv3) rfl rfl rfl (by kernel_rfl) (Or.inl ⟨by rfl, ?uy3⟩) ((below_dr W11)) ?urest3
  case uy3 => (intro _ _; go_simp; try with_reducible rfl)
  (try simp only [sI, sS, sZ])
  refine go_take2 3 24 #[tt,tt,tt,tt,ff,ff,ff,ff,ff,ff,ff,ff,ff,ff,ff] (v := ?uv4) rfl rfl rfl (by kernel_rfl) (Or.inl ⟨by rfl, ?uy4⟩) ((below_dr W11)) ?urest4
  case uy4 => (intro _ _; go_simp; try with_reducible rfl)
  (try simp only [sI, sS, sZ])
  refine go_take2 4 25 #[tt,tt,tt,tt,tt,ff,ff,ff,ff,ff,ff,ff,ff,ff,ff] rfl rfl rfl (by kernel_rfl) (yieldsIf_load_row (by rfl) 53 _ rfl (uw2.heap.size) rfl 53 (pt x1 y1 c1 b1) (fun _ h => M5.out.below h M5.out.lt) Try.underlying53 rfl (by rw [pt_size]; kernel_rfl)) ((below_dr W11)) ?_
  (try simp only [sI, sS, sZ])
  refine go_take2 5 26 #[tt,tt,tt,tt,tt,tt,ff,ff,ff,ff,ff,ff,ff,ff,ff] rfl rfl rfl (by kernel_rfl) (yieldsIf_load_row (by rfl) 24 _ rfl (w.heap.size + 1) rfl 24 (k32 n2) (fun _ h => M3.out.below h M3.out.lt) Try.underlying24 rfl (by rw [k32_size]; kernel_rfl)) ((below_dr W11)) ?_
  (try simp only [sI, sS, sZ])
  refine go_take2 8 29 #[tt,tt,tt,tt,tt,tt,ff,ff,tt,ff,ff,ff,ff,ff,ff] rfl rfl rfl (by kernel_rfl) (yieldsIf_load_row (by rfl) 57 _ rfl (uw3.heap.size) rfl 57 (rp X1 Y1 Z1 T1) (fun _ h => M7.out.below h M7.out.lt) Try.underlying57 rfl (by rw [rp_size]; kernel_rfl)) ((below_dr W11)) ?_
  (try simp only [sI, sS, sZ])
  refine go_take2 9 30 #[tt,tt,tt,tt,tt,tt,ff,ff,tt,tt,ff,ff,ff,ff,ff] rfl rfl rfl (by kernel_rfl) (yieldsIf_load_row (by rfl) 24 _ rfl (w.heap.size + 1) rfl 24 (k32 n2) (fun _ h => M3.out.below h M3.out.lt) Try.underlying24 rfl (by rw [k32_size]; kernel_rfl)) ((below_dr W11)) ?_
  (try simp only [sI, sS, sZ])
  refine wpBut_r1 (i := 6) (by kernel_rfl) ?_
  refine go_call 6 27 #[tt,tt,tt,tt,tt,tt,tt,ff,tt,tt,ff,ff,ff,ff,ff] rfl rfl rfl (by rfl) rfl rfl (by rfl) ent56 (by rfl) (Hm.out x1 y1 c1 b1 P1.out _) ?_
  rintro e wW111 ⟨x2, y2, c2, b2, p2, rfl, hb⟩
  have hkW111 := held_next (below_dr W11) hb
  refine ⟨_, rfl, fun _ => hkW111, ?_⟩
  clear hb
  (try simp only [sI, sS, sZ])
  refine wpBut_r1 (i := 7) (by kernel_rfl) ?_
  refine go_call 7 28 #[tt,tt,tt,tt,tt,tt,tt,tt,tt,tt,ff,ff,ff,ff,ff] rfl rfl rfl (by rfl) rfl rfl (by rfl) ent49 (by rfl) (Hk.out x2 y2 c2 b2 p2 _) ?_
  rintro e wW112 ⟨rfl, hb⟩
  have hkW112 := held_next hkW111 hb
  refine ⟨_, rfl, fun _ => hkW112, ?_⟩
  clear hb
  (try simp only [sI, sS, sZ])
  refine wpBut_r1 (i := 10) (by kernel_rfl) ?_
  refine go_call 10 31 #[tt,tt,tt,tt,tt,tt,tt,tt,tt,tt,tt,ff,ff,ff,ff] rfl rfl rfl (by rfl) rfl rfl (by rfl) ent57 (by rfl) (Hrm.out X1 Y1 Z1 T1 R1.out _) ?_
  rintro e wW113 ⟨X2, Y2, Z2, T2, r2, rfl, hb⟩
  have hkW113 := held_next hkW112 hb
  refine ⟨_, rfl, fun _ => hkW113, ?_⟩
  clear hb
  (try simp only [sI, sS, sZ])
  refine wpBut_r1 (i := 11) (by kernel_rfl) ?_
  refine go_call 11 32 #[tt,tt,tt,tt,tt,tt,tt,tt,tt,tt,tt,tt,ff,ff,ff] rfl rfl rfl (by rfl) rfl rfl (by rfl) ent50 (by rfl) (Hrk.out X2 Y2 Z2 T2 r2 _) ?_
  rintro e wW114 ⟨rfl, hb⟩
  have hkW114 := held_next hkW113 hb
  refine ⟨_, rfl, fun _ => hkW114, ?_⟩
  clear hb
  (try simp only [sI, sS, sZ])
  refine go_take2 12 33 #[tt,tt,tt,tt,tt,tt,tt,tt,tt,tt,tt,tt,tt,ff,ff] (v := ?uv5) rfl rfl rfl (by kernel_rfl) (Or.inl ⟨by rfl, ?uy5⟩) (hkW114) ?urest5
  case uy5 => (intro _ _; go_simp; try with_reducible rfl)
  (try simp only [sI, sS, sZ])
  refine go_take2 13 34 #[tt,tt,tt,tt,tt,tt,tt,tt,tt,tt,tt,tt,tt,tt,ff] (v := ?uv6) rfl rfl rfl (by kernel_rfl) (Or.inl ⟨by rfl, ?uy6⟩) (hkW114) ?urest6
  case uy6 => (intro _ _; go_simp; try with_reducible rfl)
  (try simp only [sI, sS, sZ])
  refine go_take2 14 4 #[tt,tt,tt,tt,tt,tt,tt,tt,tt,tt,tt,tt,tt,tt,tt] (v := ?uv7) rfl rfl rfl (by kernel_rfl) (Or.inl ⟨by rfl, ?uy7⟩) (hkW114) ?urest7
  case uy7 => (intro _ _; go_simp; try with_reducible rfl)
  (try simp only [sI, sS, sZ])
  refine wpBut_done (by kernel_rfl) (NoPanic.normal ?_)
  replace M2 := Lib.hid (M2.out.call hkW114)
  replace M3 := Lib.hid (M3.out.call hkW114)
  replace M5 := Lib.hid (M5.out.call hkW114)
  replace M7 := Lib.hid (M7.out.call hkW114)
  replace HB := Lib.hid (held_next HB.out hkW114)
  go_wp2_with fail
  go_ret
  exact ⟨rfl, HB.out⟩
end Go.Proofs.Ytjiagjonlcadiaa
end
section
namespace Go.Proofs.Ytjiagjonlcadiaa
open Go.ChangeShapes Go.WideShapes Go.ChangeAt Go.RowKit

theorem own : ownKnob Try.prog.godebug = none := by kernel_rfl
theorem laidOut : laidOutB Try.prog = true := by kernel_rfl
theorem cells24 : Try.prog.cellsOf 24 = 32 := by kernel_rfl
theorem cells5 : Try.prog.cellsOf 5 = 1 := by kernel_rfl

set_option maxRecDepth 100000 in
theorem okWide_arr {w : World} {r : Reach} {b0 : Nat} {t e : TypeId} {n : Nat} {v : Value} (ht : Try.prog.underlying t = some (.array n e)) (h : Value.okWide Try.prog w r b0 t v) : ∃ cs, v = .agg cs ∧ cs.size = Try.prog.cellsOf t := by
  simp only [Value.okWide, ht] at h
  obtain ⟨cs, h1, h2, _⟩ := h
  exact ⟨cs, h1, h2⟩


set_option maxRecDepth 100000 in
theorem fig_number (f : Nat → Int) (hf : ∀ i, i < 32 → 0 ≤ f i ∧ f i < 256) : ∃ n : Nat, n < 115792089237316195423570985008687907853269984665640564039457584007913129639936 ∧ row .u8 32 f = k32 n := by
  have h0 := sumf_nonneg 256 (by omega) f 32 (fun i hi => (hf i hi).1)
  have h1 := sumf_lt 256 (by omega) f 32 (fun i hi => (hf i hi).2)
  obtain ⟨n, hn⟩ := Int.eq_ofNat_of_zero_le h0
  refine ⟨n, ?_, ?_⟩
  · have e : (256 : Int) ^ 32 = 115792089237316195423570985008687907853269984665640564039457584007913129639936 := by decide +kernel
    rw [hn, e] at h1; omega
  · exact row_ext _ _ _ _ (sumf_uniq 256 f n 32 (fun i hi => hf i hi) hn)

set_option maxRecDepth 100000 in
theorem open_key {H : Type} {enc : TypeId × Value → H} {w : World} {base : Nat} {spare : Nat → Bool} {held : Bool} {r : Reach} {b0 : Nat} {v : Value} {d : DataW H} {p : List MemPlace}
    (hv : Value.okWide Try.prog w r b0 24 v) (h : DataW.Trod enc Try.prog w base spare held 24 v d p) : ∃ n : Nat, n < 115792089237316195423570985008687907853269984665640564039457584007913129639936 ∧ v = .agg (k32 n) := by
  obtain ⟨cs, rfl, hsz⟩ := okWide_arr Try.underlying24 hv
  rw [cells24] at hsz
  obtain ⟨fuel, hf⟩ := h
  obtain ⟨xs, m, _, _, _, hl, hel⟩ := DataW.trod_array Try.underlying24 hf
  have hz : ∀ i : Nat, ∃ z : Int, i < 32 → cs[i]? = some (.int .u8 z) ∧ (Lit.int .u8 z).wf = true := by
    intro i
    by_cases hi : i < 32
    · have hE := hel i hi
      rw [cells5, Nat.mul_one, List.getElem?_eq_getElem (by omega)] at hE
      obtain ⟨z, e1, _, e3⟩ := DataW.trod_int Try.underlying5 hE
      refine ⟨z, fun _ => ⟨?_, e3⟩⟩
      have h0 : (((Value.agg cs).cells.toList.drop i).take 1)[0]? = some (.int .u8 z) := by rw [e1]; rfl
      simpa [Value.cells] using h0
    · exact ⟨0, fun h => absurd h hi⟩
  obtain ⟨f, hf2⟩ := Classical.skolem.1 hz
  obtain ⟨n, hn, he⟩ := fig_number f (fun i hi => by
    have := bounds_u8 (hf2 i hi).2
    omega)
  refine ⟨n, hn, ?_⟩
  rw [← he]
  congr 1
  apply Array.ext_getElem?
  intro j
  by_cases hj : j < 32
  · rw [(hf2 j hj).1, row_get _ _ _ _ hj]
  · rw [row_none _ _ _ _ hj]; simp; omega
end Go.Proofs.Ytjiagjonlcadiaa
end
section
namespace Go.Proofs.Ytjiagjonlcadiaa
open Go.ChangeShapes Go.WideShapes Go.ChangeAt Go.RowKit

set_option maxRecDepth 100000 in
set_option linter.unusedVariables false in
theorem curveMany_lifted (os : Os) (started : os.Started) (H : Type) (enc : TypeId × Value → H) :
    ReturnsInHanded {} Try.checked os 14 .any (Rows.curveManySpec.pre6 enc Try.prog Try.f14 Rows.curveManyRow.domain false) (Rows.curveManySpec.post enc Try.prog Try.f14 false true false false) := by
  refine returnsInHanded_of_change (C := Try.checked) own started (by kernel_rfl) Try.func14
    (ChangeSpec.witness6 (enc := enc) (C := Try.checked) false ⟨#[], #[.agg #[.int .u8 0, .int .u8 0, .int .u8 0, .int .u8 0, .int .u8 0, .int .u8 0, .int .u8 0, .int .u8 0, .int .u8 0, .int .u8 0, .int .u8 0, .int .u8 0, .int .u8 0, .int .u8 0, .int .u8 0, .int .u8 0, .int .u8 0, .int .u8 0, .int .u8 0, .int .u8 0, .int .u8 0, .int .u8 0, .int .u8 0, .int .u8 0, .int .u8 0, .int .u8 0, .int .u8 0, .int .u8 0, .int .u8 0, .int .u8 0, .int .u8 0, .int .u8 0], .agg #[.int .u8 0, .int .u8 0, .int .u8 0, .int .u8 0, .int .u8 0, .int .u8 0, .int .u8 0, .int .u8 0, .int .u8 0, .int .u8 0, .int .u8 0, .int .u8 0, .int .u8 0, .int .u8 0, .int .u8 0, .int .u8 0, .int .u8 0, .int .u8 0, .int .u8 0, .int .u8 0, .int .u8 0, .int .u8 0, .int .u8 0, .int .u8 0, .int .u8 0, .int .u8 0, .int .u8 0, .int .u8 0, .int .u8 0, .int .u8 0, .int .u8 0, .int .u8 0]], []⟩ 8 (by kernel_rfl) (by kernel_rfl) (by kernel_rfl) (by kernel_rfl)) ?_
  intro W base args ds gs before hval0 hW hcnd _
  have hval : ∀ (j : Nat) t v, Try.f14.params[j]? = some t → args[j]? = some v → Value.okWide Try.prog W .any base t v := hval0
  have hW' := hW
  obtain ⟨p, q, hA0, hV, rfl, hfz, hnd⟩ := hW
  have hA : DataW.TrodAll enc Try.prog W 0 (fun _ => true) true Try.f14.params.toList args.toList ds p := hA0
  rw [Try.params14] at hA hval
  obtain ⟨v0, vs0, d0, ds0, p0, q0, hargs, rfl, rfl, h0, r0⟩ := trodAll_cons hA
  obtain ⟨v1, vs1, d1, ds1, p1, q1, rfl, rfl, rfl, h1, r1⟩ := trodAll_cons r0
  obtain ⟨rfl, rfl, rfl⟩ := trodAll_nil r1
  obtain rfl : args = #[v0, v1] := by cases args; simp_all
  obtain ⟨rfl, rfl⟩ := trodVars_none hV
  have k0 := h0
  have lt0 : ∀ x ∈ p0, x.block < W.heap.size := by obtain ⟨m, hm⟩ := k0; exact DataW.trod_lt m _ _ _ hm
  obtain ⟨n0, hn0, rfl⟩ := open_key (hval 0 24 v0 rfl rfl) h0
  have k1 := h1
  have lt1 : ∀ x ∈ p1, x.block < W.heap.size := by obtain ⟨m, hm⟩ := k1; exact DataW.trod_lt m _ _ _ hm
  obtain ⟨n1, hn1, rfl⟩ := open_key (hval 1 24 v1 rfl rfl) h1
  clear hA0 hval0
  refine (law_curveMany n0 n1 hn0 hn1 W).mono fun e W' ⟨he, bel⟩ => ?_
  subst he
  exact ⟨_, rfl, _, _, _, [], _, [], hW', trodAll_mk1 (shut_bool Try.underlying4 _), (trodAll_cons_mk (Below.trod laidOut (by kernel_rfl) (of_decide_eq_true (by kernel_rfl)) k0 bel lt0) (trodAll_cons_mk (Below.trod laidOut (by kernel_rfl) (of_decide_eq_true (by kernel_rfl)) k1 bel lt1) trodAll_mk0)), rfl, bel.frame _, fun h => by cases h⟩

theorem curveMany_proved : Rows.CurveManySaid :=
  OpenClaim.holds_of_wide 14 Try.f14 rfl rfl rfl rfl rfl rfl rfl ⟨rfl, rfl, rfl, rfl, rfl⟩ rfl rfl rfl rfl rfl (by kernel_rfl) Try.func14 (by kernel_rfl)
    (of_decide_eq_true (by kernel_rfl)) (by unfold Func.isWrapper; first | (rw [if_pos (by decide +kernel)]; kernel_rfl) | (rw [if_neg (by decide +kernel)]; exact ⟨rfl, rfl⟩))
    (fun os started H enc _ => curveMany_lifted os started H enc)
#print axioms curveMany_proved
end Go.Proofs.Ytjiagjonlcadiaa
end
