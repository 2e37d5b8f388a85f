/- The program's field: Of. -/
import Derived.Test.YtjiagjonlcadiaaFldD
import Derived.Test.YtjiagjonlcadiaaRefE
import Derived.BigRegion
namespace Go.Proofs.Ytjiagjonlcadiaa
open Go.RowKit Go.Lib

/-- word q, behind the bytes from k on -/
def ofw (n k q : Nat) : Nat := if k ≤ 8 * q then n / 256 ^ (8 * q) % 256 ^ 8 else if 8 * q + 8 ≤ k then 0 else n / 256 ^ k % 256 ^ (8 * q + 8 - k)
theorem ofw_word (n k q : Nat) (h1 : 8 * q ≤ k) (h2 : k ≤ 8 * q + 8) : ofw n k q = n / 256 ^ k % 256 ^ (8 * q + 8 - k) := by
  unfold ofw
  split
  · have : k = 8 * q := by omega
    subst this; rw [show 8 * q + 8 - 8 * q = 8 by omega]
  · split
    · have : k = 8 * q + 8 := by omega
      subst this; simp [Nat.mod_one]
    · rfl
theorem ofw_other (n k q : Nat) (h : q ≠ k / 8) : ofw n (k + 1) q = ofw n k q := by
  unfold ofw
  by_cases h1 : k + 1 ≤ 8 * q
  · rw [if_pos h1, if_pos (by omega)]
  · rw [if_neg h1, if_neg (show ¬ k ≤ 8 * q by omega), if_pos (show 8 * q + 8 ≤ k + 1 by omega), if_pos (show 8 * q + 8 ≤ k by omega)]
theorem ofw_step (n k : Nat) : ofw n k (k / 8) = ofw n (k + 1) (k / 8) * 256 + n / 256 ^ k % 256 := by
  rw [ofw_word n k (k / 8) (by omega) (by omega), ofw_word n (k + 1) (k / 8) (by omega) (by omega)]
  have e : 8 * (k / 8) + 8 - k = (8 * (k / 8) + 8 - (k + 1)) + 1 := by omega
  rw [e, Nat.pow_succ 256 (8 * (k / 8) + 8 - (k + 1)), Nat.mul_comm, Nat.mod_mul, Nat.pow_succ 256 k, ← Nat.div_div_eq_div_mul]
  omega
theorem ofw_lt (n k : Nat) : ofw n (k + 1) (k / 8) < 72057594037927936 := by
  rw [ofw_word n (k + 1) (k / 8) (by omega) (by omega)]
  have h1 : n / 256 ^ (k + 1) % 256 ^ (8 * (k / 8) + 8 - (k + 1)) < 256 ^ (8 * (k / 8) + 8 - (k + 1)) := Nat.mod_lt _ (Nat.pow_pos (by decide))
  have h2 : 256 ^ (8 * (k / 8) + 8 - (k + 1)) ≤ 256 ^ 7 := Nat.pow_le_pow_right (by decide) (by omega)
  have h3 : (256 : Nat) ^ 7 = 72057594037927936 := by decide
  omega
theorem or_byte (a b : Nat) (ha : a < 72057594037927936) (hb : b < 256) : bits .or .u64 ((a : Int) * 256) (b : Int) = ((a * 256 + b : Nat) : Int) := by
  have h := bits_or_u64_nat (a * 256) b (by omega) (by omega)
  have e : a * 256 ||| b = a * 256 + b := by
    have := Nat.shiftLeft_add_eq_or_of_lt (i := 8) (b := b) (by omega) a
    rw [Nat.shiftLeft_eq] at this
    exact this.symm
  rw [e] at h
  rw [← h, Int.natCast_mul]; rfl
theorem and_top (a : Nat) (ha : a < 18446744073709551616) : bits .and .u64 (a : Int) 9223372036854775807 = ((a % 9223372036854775808 : Nat) : Int) := by
  have h := bits_and_u64_nat a 9223372036854775807 ha (by omega)
  have e : a &&& 9223372036854775807 = a % 9223372036854775808 := Nat.and_two_pow_sub_one_eq_mod a 63
  rw [e] at h
  exact h
theorem ofw_0 (n q : Nat) : (ofw n 0 q : Int) = dg 18446744073709551616 n q := by
  unfold ofw dg
  rw [if_pos (by omega), Nat.pow_mul, show (256 : Nat) ^ 8 = 18446744073709551616 by decide]
theorem top_row (n : Nat) (hn : n < 115792089237316195423570985008687907853269984665640564039457584007913129639936) (h : Nat → Int) (hh : ∀ q, q < 4 → h q = dg 18446744073709551616 n q) (t : Nat) (ht : h 3 = t) : row .u64 4 (upd h 3 ((t % 9223372036854775808 : Nat) : Int)) = e4 (n % 57896044618658097711785492504343953926634992332820282019728792003956564819968) := by
  have h3 : (t : Int) = ((n / 18446744073709551616 ^ 3 % 18446744073709551616 : Nat) : Int) := by rw [← ht, hh 3 (by omega)]; rfl
  have hp : (18446744073709551616 : Nat) ^ 3 = 6277101735386680763835789423207666416102355444464034512896 := by decide +kernel
  refine row_ext _ _ _ _ (sumf_uniq 18446744073709551616 _ _ 4 (fun i hi => ?_) ?_)
  · by_cases e : i = 3
    · subst e; rw [upd_same]; omega
    · rw [upd_ne _ _ _ _ e, hh i hi]; exact ⟨w_nn n i, w_lt n i⟩
  · show sumf 18446744073709551616 _ 4 = _
    rw [sumf_upd _ _ _ _ _ (by omega), sumf_congr _ h (dg 18446744073709551616 n) 4 hh, sum4 n hn, ht]
    have hp3 : (18446744073709551616 : Int) ^ 3 = 6277101735386680763835789423207666416102355444464034512896 := by decide +kernel
    rw [hp] at h3
    rw [hp3]
    omega

set_option maxRecDepth 100000 in
set_option maxHeartbeats 2000000 in
theorem of_any (n : Nat) (hn : n < 115792089237316195423570985008687907853269984665640564039457584007913129639936) (w : World) :
    Calls Try.prog 30 #[.agg (k32 n)] w fun e w' => e = .returned (.agg (e4 (n % 57896044618658097711785492504343953926634992332820282019728792003956564819968))) ∧ Below w.heap.size w w' := by
  have HT := Lib.hid (top_row n hn); clear hn
  obtain ⟨r, hr⟩ : ∃ r, r = n % 57896044618658097711785492504343953926634992332820282019728792003956564819968 := ⟨_, rfl⟩
  rw [← hr] at HT ⊢
  clear hr
  go_enter Try.func30, Try.ntmps30
  go_wp2_with fail
  go_loopw [3] (fun i wr => ∃ (k : Nat) (h : Nat → Int), k ≤ 32 ∧ i = .int .i64 ((k : Int) - 1) ∧ (∀ q, q < 4 → h q = (ofw n k q : Int)) ∧ Has wr w.heap.size (k32 n) 24 ∧ Has wr (w.heap.size + 1) (row .u64 4 h) 36 ∧ Below w.heap.size w wr) (fun i _ => (intOf i + 1).toNat)
  case atStart =>
    refine ⟨32, fun _ => 0, by omega, rfl, fun q hq => ?_, (Has.new _ _ _).alloc _, Has.new1 _ _ _ _, below_2 _ _ _⟩
    unfold ofw
    rw [if_neg (by omega), if_pos (by omega)]; rfl
  case round =>
    obtain ⟨k, h, hk, rfl, hh, m0, m1, hB⟩ := hrel
    have M0 := Lib.hid m0; clear m0
    have M1 := Lib.hid m1; clear m1
    have Hh := Lib.hid hh; clear hh
    by_cases hlt : 0 < k
    · obtain ⟨k, rfl⟩ : ∃ j, k = j + 1 := ⟨k - 1, by omega⟩
      rw [show (((k + 1 : Nat) : Int) - 1) = (k : Int) by omega]
      have h1 := M0.out.cell k (by omega)
      have h2 := M1.out.cell (k / 8) (by omega)
      have hfz := M1.out.frozen (k / 8)
      rw [Hh.out (k / 8) (by omega)] at h2
      have x1 := ofw_lt n k
      have hst := ofw_step n k
      obtain ⟨x, hx⟩ : ∃ x, x = ofw n (k + 1) (k / 8) := ⟨_, rfl⟩
      obtain ⟨y, hy⟩ : ∃ y, y = n / 256 ^ k % 256 := ⟨_, rfl⟩
      have y1 : y < 256 := by rw [hy]; exact Nat.mod_lt _ (by decide)
      rw [show dg 256 n k = ((n / 256 ^ k % 256 : Nat) : Int) from rfl, ← hy] at h1
      rw [← hx] at h2 x1 hst
      rw [← hy] at hst
      have hor := or_byte x y x1 y1
      have k2 : (0 : Int) ≤ (k : Int) / 8 := by omega
      have k3 : (k : Int) / 8 < 4 := by omega
      have Hx := Lib.hid hx; clear hx
      have Hy := Lib.hid hy; clear hy
      have Hst := Lib.hid hst; clear hst
      go_wp2_with fail
      go_region
      go_wp2_with fail
      go_roundw
      case measure => simp [intOf]
      case rel =>
        refine ⟨k, upd h (k / 8) ((x : Int) * 256 + y), by omega, rfl, ?_, M0.out.other _ _ (by simp <;> omega), M1.out.set _ _, (hB.setCell (by simp <;> omega) _).drew⟩
        intro q hq
        by_cases e : q = k / 8
        · subst e; rw [upd_same, Hst.out, Int.natCast_add, Int.natCast_mul]; rfl
        · rw [upd_ne _ _ _ _ e, ← ofw_other n k q e]; exact Hh.out q hq
    · obtain rfl : k = 0 := by omega
      have h2 := M1.out.cell 3 (by omega)
      have hfz := M1.out.frozen 3
      have h0 : ∀ q, q < 4 → h q = dg 18446744073709551616 n q := fun q hq => (Hh.out q hq).trans (ofw_0 n q)
      have z1 : ofw n 0 3 < 18446744073709551616 := by
        have := w_lt n 3
        rw [← ofw_0] at this; omega
      rw [Hh.out 3 (by omega)] at h2
      obtain ⟨t, ht⟩ : ∃ t, t = ofw n 0 3 := ⟨_, rfl⟩
      rw [← ht] at h2 z1
      have hand := and_top t z1
      have hrow := HT.out h h0 t (by rw [ht]; exact Hh.out 3 (by omega))
      have m1 := M1.out.set 3 ((t % 9223372036854775808 : Nat) : Int)
      rw [hrow] at m1
      have hB2 := hB.setCell (p := ⟨w.heap.size + 1, 3, none⟩) (show w.heap.size ≤ w.heap.size + 1 by omega) (.int .u64 ((t % 9223372036854775808 : Nat) : Int))
      obtain ⟨u, hu⟩ : ∃ u : Int, u = ((t % 9223372036854775808 : Nat) : Int) := ⟨_, rfl⟩
      rw [← hu] at hand m1 hB2
      have HBB := Lib.hid (below_setRow hB2 (w.heap.size + 1) (e4 r) (by omega))
      have Q1 := Lib.hid m1; clear m1
      have Q2 := Lib.hid (Q1.out.setRow (e4 r))
      clear hrow hu ht h0 hB2 M1
      go_wp2_with (first | (refine wpList_load_row rfl 36 _ rfl (w.heap.size + 1) rfl 36 (e4 r) (0, 0) _ Q1.out Try.underlying36 rfl (by rw [e4_size]; kernel_rfl) ?_) | (refine wpList_store_row rfl 36 _ _ rfl (w.heap.size + 1) _ rfl rfl 36 (e4 r) Q1.out (by rw [e4_size]; kernel_rfl) rfl (row_one _ _ _) ?_))
      exact bodyPost_ret (v := .agg (e4 r)) (results_cell_row (t := 36) (by rfl) _ _ (w.heap.size + 1) _ _ _ rfl Q2.out Try.underlying36 rfl (by rw [e4_size]; kernel_rfl)) rfl ⟨rfl, HBB.out⟩
end Go.Proofs.Ytjiagjonlcadiaa
