/- The reference's figures: less, below, Prime. -/
import Derived.Test.YtjiagjonlcadiaaRow
import Derived.OwnWalk
import Derived.Outline
namespace Go.Proofs.Ytjiagjonlcadiaa
open Go.RowKit Go.Lib

/-- an element of the reference: 22 figures of 12 bits -/
def r22 (n : Nat) : Array Value := row .i64 22 (dg 4096 n)
theorem r22_size (n : Nat) : (r22 n).size = 22 := row_size _ _ _

theorem less_step (D F G H x y bw bw' z : Int) (h : H = F - G + bw * D) (hz : z = x - y - bw + 4096 * bw') :
    H + z * D = (F + x * D) - (G + y * D) + bw' * (D * 4096) := by
  subst h hz; grind

theorem less_end (a b : Nat) (hab : b ≤ a) (ha : a < 4096 ^ 22) (h : Nat → Int) (bw : Int) (hb0 : 0 ≤ bw) (hb1 : bw ≤ 1) (hd : ∀ j, j < 22 → 0 ≤ h j ∧ h j < 4096)
    (hs : sumf 4096 h 22 = sumf 4096 (dg 4096 a) 22 - sumf 4096 (dg 4096 b) 22 + bw * 4096 ^ 22) : row .i64 22 h = r22 (a - b) := by
  have e1 := sumf_dg 4096 a 22
  have e2 := sumf_dg 4096 b 22
  rw [Nat.mod_eq_of_lt ha] at e1
  rw [Nat.mod_eq_of_lt (by omega)] at e2
  have e3 : sumf 4096 h 22 < 4096 ^ 22 := sumf_lt 4096 (by decide) h 22 fun i hi => (hd i hi).2
  have e1' : sumf 4096 (dg 4096 a) 22 = a := e1
  have e2' : sumf 4096 (dg 4096 b) 22 = b := e2
  rw [e1', e2'] at hs
  have hbw : bw = 0 := by
    rcases (show bw = 0 ∨ bw = 1 by omega) with h0 | h0
    · exact h0
    · subst h0; omega
  subst hbw
  refine row_ext _ _ _ _ (sumf_uniq 4096 h (a - b) 22 hd ?_)
  show sumf 4096 h 22 = _
  rw [hs]; omega

set_option maxHeartbeats 400000 in
theorem less_any (a b : Nat) (hab : b ≤ a) (ha : a < 4096 ^ 22) (w : World) :
    Calls Try.prog 81 #[.agg (r22 a), .agg (r22 b)] w fun e w' => e = .returned (.agg (r22 (a - b))) ∧ Below w.heap.size w w' := by
  have hf := fun i => dg_bd 4096 a i (by decide)
  have hg := fun i => dg_bd 4096 b i (by decide)
  have hend := less_end a b hab ha
  have HF := Lib.hid hf; clear hf
  have HG := Lib.hid hg; clear hg
  have HE := Lib.hid hend; clear hend
  have H0 := Lib.hid hab; clear hab
  have H1 := Lib.hid ha; clear ha
  go_enter Try.func81, Try.ntmps81
  go_wp2_with fail
  go_loopw [5, 6] (fun u i wr => ∃ (k : Nat) (h : Nat → Int) (bw : Int), k ≤ 22 ∧ i = .int .i64 k ∧ u = .int .i64 bw ∧ 0 ≤ bw ∧ bw ≤ 1 ∧ (∀ j, k ≤ j → h j = dg 4096 a j) ∧ (∀ j, j < k → 0 ≤ h j ∧ h j < 4096) ∧ sumf 4096 h k = sumf 4096 (dg 4096 a) k - sumf 4096 (dg 4096 b) k + bw * 4096 ^ k ∧ Has wr w.heap.size (row .i64 22 h) 40 ∧ Has wr (w.heap.size + 1) (r22 b) 40 ∧ HasN wr (w.heap.size + 1 + 1) 22 40 ∧ Below w.heap.size w wr) (fun _ i _ => 22 - (intOf i).toNat)
  case atStart =>
    exact ⟨0, dg 4096 a, 0, by omega, rfl, rfl, by omega, by omega, fun _ _ => rfl, fun j hj => by omega, by simp [sumf], ((Has.new _ _ _).alloc _).alloc _, (Has.new1 _ _ _ _).alloc _, HasN.new2 _ _ _ _ _ _ rfl, below_3 _ _ _ _⟩
  case round =>
    obtain ⟨k, h, bw, hk, rfl, rfl, hb0, hb1, hh, hd, hs, m0, m1, m2, hB⟩ := hrel
    have HH := Lib.hid hh; clear hh
    have HD := Lib.hid hd; clear hd
    have HS := Lib.hid hs; clear hs
    have M0 := Lib.hid m0; clear m0
    have M1 := Lib.hid m1; clear m1
    have M2 := Lib.hid m2; clear m2
    by_cases hlt : k < 22
    · have h1 := M0.out.cell k hlt
      have h2 := M1.out.cell k hlt
      have hfz := M0.out.frozen k
      have h3 := HF.out k
      have h4 := HG.out k
      rw [← HH.out k (Nat.le_refl _)] at h3
      obtain ⟨x, hx⟩ : ∃ x, x = h k := ⟨_, rfl⟩
      obtain ⟨y, hy⟩ : ∃ y, y = dg 4096 b k := ⟨_, rfl⟩
      rw [← hx] at h1 h3
      rw [← hy] at h2 h4
      have Hx := Lib.hid hx; clear hx
      have Hy := Lib.hid hy; clear hy
      obtain ⟨h30, h31⟩ := h3
      obtain ⟨h40, h41⟩ := h4
      go_wp2_with fail
      go_quiet (fail)
      go_wp2_with fail
      all_goals
        go_roundw
        case measure => simp [intOf]; omega
        case rel =>
          first
          | (refine ⟨k + 1, upd h k (x - y - bw + 4096), 1, by omega, by go_num, rfl, by omega, by omega, ?_, ?_, ?_, (M0.out.drewN _).set _ _, M1.out.other _ _ (by simp), M2.out.other _ _ (by simp; omega), (below_drewN hB _).setCell (by simp) _⟩
             · intro j hj; rw [upd_ne _ _ _ _ (by omega)]; exact HH.out j (by omega)
             · intro j hj
               by_cases e : j = k
               · subst e; rw [upd_same]; omega
               · rw [upd_ne _ _ _ _ e]; exact HD.out j (by omega)
             · simp only [sumf]
               rw [sumf_upd_above _ _ _ _ _ (Nat.le_refl _), upd_same, ← HH.out k (Nat.le_refl _), ← Hx.out, ← Hy.out, Int.pow_succ]
               exact less_step _ _ _ _ _ _ _ _ _ HS.out (by omega))
          | (refine ⟨k + 1, upd h k (x - y - bw), 0, by omega, by go_num, rfl, by omega, by omega, ?_, ?_, ?_, (M0.out.drewN _).set _ _, M1.out.other _ _ (by simp), M2.out.other _ _ (by simp; omega), (below_drewN hB _).setCell (by simp) _⟩
             · intro j hj; rw [upd_ne _ _ _ _ (by omega)]; exact HH.out j (by omega)
             · intro j hj
               by_cases e : j = k
               · subst e; rw [upd_same]; omega
               · rw [upd_ne _ _ _ _ e]; exact HD.out j (by omega)
             · simp only [sumf]
               rw [sumf_upd_above _ _ _ _ _ (Nat.le_refl _), upd_same, ← HH.out k (Nat.le_refl _), ← Hx.out, ← Hy.out, Int.pow_succ]
               exact less_step _ _ _ _ _ _ _ _ _ HS.out (by omega))
    · obtain rfl : k = 22 := by omega
      obtain ⟨Z, hZ, m2⟩ := M2.out
      have HZ := Lib.hid hZ; clear hZ
      have M3 := Lib.hid m2; clear m2
      go_wp2_with (first | (refine wpList_load_row rfl 40 _ rfl w.heap.size rfl 40 (row .i64 22 h) (0, 0) _ M0.out Try.underlying40 rfl (by kernel_rfl) ?_) | (refine wpList_store_row rfl 40 _ _ rfl (w.heap.size + 1 + 1) _ rfl rfl 40 Z M3.out (by kernel_rfl) (HZ.out.trans (row_size _ _ _).symm) (row_one _ _ _) ?_))
      refine bodyPost_ret (v := .agg (r22 (a - b))) (results_cell_row (t := 40) (by rfl) _ _ (w.heap.size + 1 + 1) _ _ _ rfl ((M3.out.setRow _).trans (by rw [HE.out h bw hb0 hb1 HD.out HS.out])) Try.underlying40 rfl (by rw [r22_size]; kernel_rfl)) rfl ⟨rfl, below_setRow hB _ _ (by omega)⟩

/-- the prime -/
def PP : Nat := 57896044618658097711785492504343953926634992332820282019728792003956564819949
theorem PP_lt : PP < 4096 ^ 22 := by decide +kernel
theorem prime_row : row .i64 22 (upd (upd (fun j => if j < 21 then 4095 else 0) 0 4077) 21 7) = r22 PP := by
  refine row_ext _ _ _ _ ?_
  have : (List.range 22).all (fun i => upd (upd (fun j => if j < 21 then 4095 else 0) 0 4077) 21 7 i == dg 4096 PP i) = true := by decide +kernel
  intro i hi
  simpa using List.all_eq_true.1 this i (by simpa using hi)

set_option maxHeartbeats 400000 in
theorem prime_any (w : World) : Calls Try.prog 82 #[] w fun e w' => e = .returned (.agg (r22 PP)) ∧ Below w.heap.size w w' := by
  go_enter Try.func82, Try.ntmps82
  go_wp2_with fail
  go_loopw [2] (fun i wr => ∃ (k : Nat), k ≤ 21 ∧ i = .int .i64 k ∧ Has wr (w.heap.size + 1) (row .i64 22 (fun j => if j < k then 4095 else 0)) 40 ∧ HasN wr w.heap.size 22 40 ∧ Below w.heap.size w wr) (fun i _ => 21 - (intOf i).toNat)
  case atStart =>
    exact ⟨0, by omega, rfl, Has.new1 _ _ _ _, (HasN.new _ _ _ 22 rfl).alloc _, below_2 _ _ _⟩
  case round =>
    obtain ⟨k, hk, rfl, m0, m1, hB⟩ := hrel
    have M0 := Lib.hid m0; clear m0
    have M1 := Lib.hid m1; clear m1
    by_cases hlt : k < 21
    · have h1 := M0.out.cell k (by omega)
      have hfz := M0.out.frozen k
      go_wp2_with fail
      go_roundw
      case measure => simp [intOf]; omega
      case rel =>
        refine ⟨k + 1, by omega, by go_num, ?_, M1.out.other _ _ (by simp), hB.setCell (by simp) _⟩
        have := M0.out.set k 4095
        rw [row_ext _ _ _ (fun j => if j < k + 1 then 4095 else 0)] at this
        · exact this
        · intro i _
          by_cases e : i = k
          · subst e; rw [upd_same]; simp
          · rw [upd_ne _ _ _ _ e]
            show (if i < k then (4095 : Int) else 0) = if i < k + 1 then 4095 else 0
            split <;> split <;> first | rfl | omega
    · obtain rfl : k = 21 := by omega
      have h1 := M0.out.cell 0 (by omega)
      have h2 := M0.out.cell 21 (by omega)
      have f1 := M0.out.frozen 0
      have f2 := M0.out.frozen 21
      have m2 := ((M0.out.set 0 4077).set 21 7)
      rw [prime_row] at m2
      have M2 := Lib.hid m2; clear m2
      obtain ⟨Z, hZ, m3⟩ := M1.out
      have M3 := Lib.hid ((m3.other ⟨w.heap.size + 1, 0, none⟩ (.int .i64 4077) (by simp)).other ⟨w.heap.size + 1, 21, none⟩ (.int .i64 7) (by simp)); clear m3
      have HZ := Lib.hid hZ; clear hZ
      go_wp2_with (first | (refine wpList_load_row rfl 40 _ rfl (w.heap.size + 1) rfl 40 (r22 PP) (0, 0) _ M2.out Try.underlying40 rfl (by kernel_rfl) ?_) | (refine wpList_store_row rfl 40 _ _ rfl w.heap.size _ rfl rfl 40 Z M3.out (by kernel_rfl) (HZ.out.trans (r22_size _).symm) (row_one _ _ _) ?_))
      exact bodyPost_ret (v := .agg (r22 PP)) (results_cell_row (t := 40) (by rfl) _ _ w.heap.size _ _ _ rfl (M3.out.setRow _) Try.underlying40 rfl (by kernel_rfl)) rfl ⟨rfl, below_setRow ((hB.setCell (by simp) _).setCell (by simp) _) _ _ (by omega)⟩

/-- below: from the highest figure on -/
theorem below_end (a b k : Nat) (ha : a < 4096 ^ 22) (hb : b < 4096 ^ 22) (hk : k < 22) (heq : ∀ j, k < j → j < 22 → dg 4096 a j = dg 4096 b j) (hne : dg 4096 a k ≠ dg 4096 b k) : (dg 4096 a k < dg 4096 b k) ↔ a < b := by
  have e1 : sumf 4096 (dg 4096 a) 22 = (a % 4096 ^ 22 : Nat) := sumf_dg 4096 a 22
  have e2 : sumf 4096 (dg 4096 b) 22 = (b % 4096 ^ 22 : Nat) := sumf_dg 4096 b 22
  rw [Nat.mod_eq_of_lt ha] at e1
  rw [Nat.mod_eq_of_lt hb] at e2
  have up : ∀ n, k + 1 ≤ n → n ≤ 22 → sumf 4096 (dg 4096 a) n - sumf 4096 (dg 4096 b) n = sumf 4096 (dg 4096 a) (k + 1) - sumf 4096 (dg 4096 b) (k + 1) := by
    intro n hn
    induction n with
    | zero => omega
    | succ n ih =>
      intro h22
      by_cases hkn : k = n
      · subst hkn; rfl
      · have := ih (by omega) (by omega)
        have h2 := heq n (by omega) (by omega)
        simp only [sumf] at this ⊢
        rw [h2]; omega
  have h3 := up 22 (by omega) (by omega)
  rw [e1, e2] at h3
  simp only [sumf] at h3
  have p1 := sumf_nonneg 4096 (by decide) (dg 4096 a) k (fun i _ => (dg_bd 4096 a i (by decide)).1)
  have p2 := sumf_nonneg 4096 (by decide) (dg 4096 b) k (fun i _ => (dg_bd 4096 b i (by decide)).1)
  have q1 := sumf_lt 4096 (by decide) (dg 4096 a) k (fun i _ => (dg_bd 4096 a i (by decide)).2)
  have q2 := sumf_lt 4096 (by decide) (dg 4096 b) k (fun i _ => (dg_bd 4096 b i (by decide)).2)
  have hD : (0 : Int) < 4096 ^ k := Int.pow_pos (by decide)
  generalize (4096 : Int) ^ k = D at *
  generalize dg 4096 a k = x at *
  generalize dg 4096 b k = y at *
  constructor
  · intro h
    have : (x + 1) * D ≤ y * D := Int.mul_le_mul_of_nonneg_right (by omega) (by omega)
    rw [Int.add_mul] at this
    omega
  · intro h
    by_cases hh : x < y
    · exact hh
    · have : (y + 1) * D ≤ x * D := Int.mul_le_mul_of_nonneg_right (by omega) (by omega)
      rw [Int.add_mul] at this
      omega
theorem below_eq (a b : Nat) (ha : a < 4096 ^ 22) (hb : b < 4096 ^ 22) (heq : ∀ j, j < 22 → dg 4096 a j = dg 4096 b j) : a = b := by
  have e1 : sumf 4096 (dg 4096 a) 22 = (a % 4096 ^ 22 : Nat) := sumf_dg 4096 a 22
  have e2 : sumf 4096 (dg 4096 b) 22 = (b % 4096 ^ 22 : Nat) := sumf_dg 4096 b 22
  rw [Nat.mod_eq_of_lt ha] at e1
  rw [Nat.mod_eq_of_lt hb] at e2
  rw [sumf_congr 4096 _ _ 22 heq] at e1
  omega

theorem ret_bool {a b : Bool} (h : a = b) : Ending.returned (.bool a) = .returned (.bool b) := by rw [h]

set_option maxHeartbeats 400000 in
theorem below_any (a b : Nat) (ha : a < 4096 ^ 22) (hb : b < 4096 ^ 22) (w : World) :
    Calls Try.prog 109 #[.agg (r22 a), .agg (r22 b)] w fun e w' => e = .returned (.bool (decide (a < b))) ∧ Below w.heap.size w w' := by
  have H0 := Lib.hid ha; clear ha
  have H1 := Lib.hid hb; clear hb
  go_enter Try.func109, Try.ntmps109
  go_wp2_with fail
  go_loopw [5] (fun i wr => ∃ (k : Nat), k ≤ 22 ∧ i = .int .i64 ((k : Int) - 1) ∧ (∀ j, k ≤ j → j < 22 → dg 4096 a j = dg 4096 b j) ∧ Has wr w.heap.size (r22 a) 40 ∧ Has wr (w.heap.size + 1) (r22 b) 40 ∧ Below w.heap.size w wr) (fun i _ => (intOf i + 1).toNat)
  case atStart =>
    exact ⟨22, by omega, rfl, fun j h1 h2 => by omega, (Has.new _ _ _).alloc _, Has.new1 _ _ _ _, below_2 _ _ _⟩
  case round =>
    obtain ⟨k, hk, rfl, hh, m0, m1, hB⟩ := hrel
    have M0 := Lib.hid m0; clear m0
    have M1 := Lib.hid m1; clear m1
    have HH := Lib.hid hh; clear hh
    by_cases hlt : 0 < k
    · obtain ⟨k, rfl⟩ : ∃ j, k = j + 1 := ⟨k - 1, by omega⟩
      rw [show (((k + 1 : Nat) : Int) - 1) = (k : Int) by omega]
      have h1 := M0.out.cell k (by omega)
      have h2 := M1.out.cell k (by omega)
      obtain ⟨x, hx⟩ : ∃ x, x = dg 4096 a k := ⟨_, rfl⟩
      obtain ⟨y, hy⟩ : ∃ y, y = dg 4096 b k := ⟨_, rfl⟩
      rw [← hx] at h1
      rw [← hy] at h2
      have Hx := Lib.hid hx; clear hx
      have Hy := Lib.hid hy; clear hy
      have hk' : k < 22 := by omega
      by_cases hxy : x = y
      · have ht : (x != y) = false := by simp [hxy]
        have Hxy := Lib.hid hxy; clear hxy
        go_wp2_with fail
        go_quiet (fail)
        go_wp2_with fail
        go_roundw
        case measure => simp [intOf]
        case rel =>
          refine ⟨k, by omega, rfl, ?_, M0.out, M1.out, below_drewN hB _⟩
          intro j h1 h2
          by_cases e : j = k
          · subst e; rw [← Hx.out, ← Hy.out]; exact Hxy.out
          · exact HH.out j (by omega) h2
      · have ht : (x != y) = true := by simp [hxy]
        have hxy' : dg 4096 a k ≠ dg 4096 b k := by rw [← Hx.out, ← Hy.out]; exact hxy
        have hres := below_end a b k H0.out H1.out hk' (fun j h1 h2 => HH.out j (by omega) h2) hxy'
        rw [← Hx.out, ← Hy.out] at hres
        have HR := Lib.hid hres; clear hres hxy' hxy
        go_wp2_with fail
        go_quiet (fail)
        go_wp2_with fail
        go_quiet (fail)
        go_wp2_with fail
        go_ret
        exact ⟨ret_bool (by have := HR.out; simp only [this]), below_drewN (below_drewN hB _) _⟩
    · obtain rfl : k = 0 := by omega
      have hab := below_eq a b H0.out H1.out (fun j hj => HH.out j (by omega) hj)
      have HR := Lib.hid hab; clear hab
      go_wp2_with fail
      go_ret
      exact ⟨ret_bool (by have := HR.out; simp [this]), hB⟩
end Go.Proofs.Ytjiagjonlcadiaa
