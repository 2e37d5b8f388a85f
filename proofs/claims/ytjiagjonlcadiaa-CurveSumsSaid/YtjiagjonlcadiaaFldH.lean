/- The program's field: Key, Even, Is. -/
import Derived.Test.YtjiagjonlcadiaaFldG
import Derived.Test.YtjiagjonlcadiaaOrd
namespace Go.Proofs.Ytjiagjonlcadiaa
open Go.RowKit Go.Lib

theorem key_byte (n k : Nat) : (n / 18446744073709551616 ^ (k / 8) % 18446744073709551616) / 2 ^ (8 * (k % 8)) % 256 = n / 256 ^ k % 256 := by
  have e : 256 ^ k = 18446744073709551616 ^ (k / 8) * 256 ^ (k % 8) := by
    rw [show (18446744073709551616 : Nat) = 256 ^ 8 by decide, ← Nat.pow_mul, ← Nat.pow_add, Nat.div_add_mod]
  rw [e, ← Nat.div_div_eq_div_mul]
  generalize n / 18446744073709551616 ^ (k / 8) = q
  have hr : k % 8 < 8 := Nat.mod_lt _ (by decide)
  generalize k % 8 = r at *
  rcases (show r = 0 ∨ r = 1 ∨ r = 2 ∨ r = 3 ∨ r = 4 ∨ r = 5 ∨ r = 6 ∨ r = 7 by omega) with rfl | rfl | rfl | rfl | rfl | rfl | rfl | rfl <;> simp <;> omega
theorem key_byte_int (n k : Nat) (x : Int) (hx : x = dg 18446744073709551616 n (k / 8)) : x / 2 ^ (8 * (k % 8)) % 256 = dg 256 n k := by
  rw [hx, dg, dg, ← key_byte n k]
  generalize n / 18446744073709551616 ^ (k / 8) % 18446744073709551616 = q
  generalize 8 * (k % 8) = m
  rw [Int.natCast_emod, Int.natCast_ediv, Int.natCast_pow]
  rfl
theorem and_one (a : Nat) (ha : a < 18446744073709551616) : bits .and .u64 (a : Int) 1 = ((a % 2 : Nat) : Int) := by
  have h := bits_and_u64_nat a 1 ha (by omega)
  have e : a &&& 1 = a % 2 := Nat.and_two_pow_sub_one_eq_mod a 1
  rw [e] at h
  exact h
theorem div_pow_bd64 (x : Int) (k : Nat) (h0 : 0 ≤ x) (h1 : x < 18446744073709551616) : 0 ≤ x / 2 ^ k ∧ x / 2 ^ k < 18446744073709551616 := by
  have hp : (0 : Int) < 2 ^ k := Int.pow_pos (by decide)
  refine ⟨Int.ediv_nonneg h0 (Int.le_of_lt hp), ?_⟩
  have := Int.ediv_le_self (2 ^ k) h0
  omega
theorem e4_eq (x y : Nat) (hx : x < 115792089237316195423570985008687907853269984665640564039457584007913129639936) (hy : y < 115792089237316195423570985008687907853269984665640564039457584007913129639936) (w : World) : (Op.equalIn 10000 36 (.agg (e4 x)) (.agg (e4 y))).run Try.prog w = .ok (decide (x = y)) w := by
  rw [← eqr_dg 18446744073709551616 4 x y (by rw [n64_4]; exact hx) (by rw [n64_4]; exact hy)]
  exact run_equalIn_row w 9998 36 34 4 .u64 Try.underlying36 Try.underlying34 sz_u64 _ _
theorem modPP_lt (n : Nat) : n % PP < 115792089237316195423570985008687907853269984665640564039457584007913129639936 := Nat.lt_trans (Nat.mod_lt _ PP_pos) (by decide +kernel)

set_option maxRecDepth 100000 in
set_option maxHeartbeats 2000000 in
theorem key_any (n : Nat) (hn : n < 115792089237316195423570985008687907853269984665640564039457584007913129639936) (w : World) :
    Calls Try.prog 73 #[.agg (e4 n)] w fun e w' => e = .returned (.agg (k32 (n % PP))) ∧ Below w.heap.size w w' := by
  have hl := fun w => fleast_any n hn w
  obtain ⟨r, hr⟩ : ∃ r, r = n % PP := ⟨_, rfl⟩
  rw [← hr] at hl ⊢
  have Hl := Lib.hid hl; clear hl
  clear hr hn
  go_enter Try.func73, Try.ntmps73
  have M0 := Lib.hid ((Has.new w (e4 n) 36).alloc (.cells (#[.int .u8 0, .int .u8 0, .int .u8 0, .int .u8 0, .int .u8 0, .int .u8 0, .int .u8 0, .int .u8 0, .int .u8 0, .int .u8 0, .int .u8 0, .int .u8 0, .int .u8 0, .int .u8 0, .int .u8 0, .int .u8 0, .int .u8 0, .int .u8 0, .int .u8 0, .int .u8 0, .int .u8 0, .int .u8 0, .int .u8 0, .int .u8 0, .int .u8 0, .int .u8 0, .int .u8 0, .int .u8 0, .int .u8 0, .int .u8 0, .int .u8 0, .int .u8 0] : Array Value) 24))
  go_wp2_with (refine wpList_load_row rfl 36 _ rfl (w.heap.size) rfl 36 (e4 n) (0, 0) _ M0.out Try.underlying36 rfl (by rw [e4_size]; kernel_rfl) ?_)
  refine (Hl.out _).mono ?_
  rintro e w1 ⟨rfl, b1⟩
  obtain ⟨Z, hZ, mz⟩ := (M0.out.toN (e4_size _)).call b1
  have m1 := (Has.new1 w (.cells (e4 n) 36) (#[.int .u8 0, .int .u8 0, .int .u8 0, .int .u8 0, .int .u8 0, .int .u8 0, .int .u8 0, .int .u8 0, .int .u8 0, .int .u8 0, .int .u8 0, .int .u8 0, .int .u8 0, .int .u8 0, .int .u8 0, .int .u8 0, .int .u8 0, .int .u8 0, .int .u8 0, .int .u8 0, .int .u8 0, .int .u8 0, .int .u8 0, .int .u8 0, .int .u8 0, .int .u8 0, .int .u8 0, .int .u8 0, .int .u8 0, .int .u8 0, .int .u8 0, .int .u8 0] : Array Value) 24).call b1
  have q0 := mz.setRow (e4 r)
  have q1 := m1.setRow_other w.heap.size (e4 r) (by omega)
  have hB := below_setRow (held_next (below_2 w (.cells (e4 n) 36) (.cells (#[.int .u8 0, .int .u8 0, .int .u8 0, .int .u8 0, .int .u8 0, .int .u8 0, .int .u8 0, .int .u8 0, .int .u8 0, .int .u8 0, .int .u8 0, .int .u8 0, .int .u8 0, .int .u8 0, .int .u8 0, .int .u8 0, .int .u8 0, .int .u8 0, .int .u8 0, .int .u8 0, .int .u8 0, .int .u8 0, .int .u8 0, .int .u8 0, .int .u8 0, .int .u8 0, .int .u8 0, .int .u8 0, .int .u8 0, .int .u8 0, .int .u8 0, .int .u8 0] : Array Value) 24)) b1) w.heap.size (e4 r) (Nat.le_refl _)
  clear M0 m1 b1
  have Mz := Lib.hid mz; clear mz
  have HZ := Lib.hid hZ; clear hZ
  have Q0 := Lib.hid q0; clear q0
  have Q1 := Lib.hid q1; clear q1
  have HB := Lib.hid hB; clear hB
  go_wp2_with (refine wpList_store_row rfl 36 _ _ rfl (w.heap.size) _ rfl rfl 36 Z Mz.out (by rw [e4_size]; kernel_rfl) (HZ.out.trans (e4_size _).symm) (row_one _ _ _) ?_)
  clear Mz HZ
  go_loopw [6] (fun i wr => ∃ (k : Nat) (h : Nat → Int), k ≤ 32 ∧ i = .int .i64 k ∧ (∀ j, j < k → h j = dg 256 r j) ∧ Has wr w.heap.size (e4 r) 36 ∧ Has wr (w.heap.size + 1) (row .u8 32 h) 24 ∧ Below w.heap.size w wr) (fun i _ => 32 - (intOf i).toNat)
  case atStart => exact ⟨0, fun _ => 0, by omega, rfl, fun j hj => by omega, Q0.out, Q1.out, HB.out⟩
  case round =>
    clear Q0 Q1 HB
    obtain ⟨k, h, hk, rfl, hh, m0, m1, hB⟩ := hrel
    have M0 := Lib.hid m0; clear m0
    have M1 := Lib.hid m1; clear m1
    have Hh := Lib.hid hh; clear hh
    by_cases hlt : k < 32
    · have h1 := M0.out.cell (k / 8) (by omega)
      have h2 := M1.out.cell k hlt
      have hfz := M1.out.frozen k
      have x0 := w_nn r (k / 8)
      have x1 := w_lt r (k / 8)
      obtain ⟨x, hx⟩ : ∃ x, x = dg 18446744073709551616 r (k / 8) := ⟨_, rfl⟩
      rw [← hx] at h1 x0 x1
      have hkb := key_byte_int r k x hx
      obtain ⟨s0, s1⟩ := div_pow_bd64 x (8 * (k % 8)) x0 x1
      have k2 : (0 : Int) ≤ (k : Int) / 8 := by omega
      have k3 : (k : Int) / 8 < 4 := by omega
      have k4 : (0 : Int) ≤ 8 * ((k : Int) % 8) := by omega
      have k5 : 8 * ((k : Int) % 8) < 64 := by omega
      have Hx := Lib.hid hx; clear hx
      have Hkb := Lib.hid hkb; clear hkb
      go_wp2_with fail
      go_roundw
      case measure => simp [intOf]; omega
      case rel =>
        refine ⟨k + 1, upd h k (x / 2 ^ (8 * (k % 8)) % 256), by omega, by go_num, ?_, M0.out.other _ _ (by simp <;> omega), M1.out.set _ _, hB.setCell (by simp <;> omega) _⟩
        intro j hj
        by_cases e : j = k
        · subst e; rw [upd_same]; exact Hkb.out
        · rw [upd_ne _ _ _ _ e]; exact Hh.out j (by omega)
    · obtain rfl : k = 32 := by omega
      have m1 := M1.out
      rw [show row .u8 32 h = k32 r from row_ext _ _ _ _ Hh.out] at m1
      have P1 := Lib.hid m1; clear m1 M1
      have P2 := Lib.hid (P1.out.setRow (k32 r))
      go_wp2_with (first | (refine wpList_load_row rfl 24 _ rfl (w.heap.size + 1) rfl 24 (k32 r) (0, 0) _ P1.out Try.underlying24 rfl (by rw [k32_size]; kernel_rfl) ?_) | (refine wpList_store_row rfl 24 _ _ rfl (w.heap.size + 1) _ rfl rfl 24 (k32 r) P1.out (by rw [k32_size]; kernel_rfl) rfl (row_one _ _ _) ?_))
      exact bodyPost_ret (v := .agg (k32 r)) (results_cell_row (t := 24) (by rfl) _ _ (w.heap.size + 1) _ _ _ rfl P2.out Try.underlying24 rfl (by rw [k32_size]; kernel_rfl)) rfl ⟨rfl, below_setRow hB _ _ (by omega)⟩

set_option maxRecDepth 100000 in
set_option maxHeartbeats 2000000 in
theorem is_any (a b : Nat) (ha : a < 115792089237316195423570985008687907853269984665640564039457584007913129639936) (hb : b < 115792089237316195423570985008687907853269984665640564039457584007913129639936) (w : World) :
    Calls Try.prog 41 #[.agg (e4 a), .agg (e4 b)] w fun e w' => e = .returned (.bool (decide (a % PP = b % PP))) ∧ Below w.heap.size w w' := by
  have hl1 := fun w => fleast_any a ha w
  have hl2 := fun w => fleast_any b hb w
  have heq := fun w => e4_eq (a % PP) (b % PP) (modPP_lt a) (modPP_lt b) w
  obtain ⟨x, hx⟩ : ∃ r, r = a % PP := ⟨_, rfl⟩
  obtain ⟨y, hy⟩ : ∃ r, r = b % PP := ⟨_, rfl⟩
  rw [← hx] at hl1 heq ⊢
  rw [← hy] at hl2 heq ⊢
  have Hl1 := Lib.hid hl1; clear hl1
  have Hl2 := Lib.hid hl2; clear hl2
  obtain ⟨d, hd⟩ : ∃ d, d = decide (x = y) := ⟨_, rfl⟩
  rw [← hd] at heq ⊢
  clear hx hy ha hb hd
  go_enter Try.func41, Try.ntmps41
  go_wp2_with fail
  refine wp_region_noPanic ?_
  refine wp_region_below 99 (by kernel_rfl) ?_
  intro W0 hW0
  have M0 := Lib.hid (show Has W0 w.heap.size (e4 a) 36 by rw [hW0]; exact (Has.new _ _ _).alloc _)
  have M1 := Lib.hid (show Has W0 (w.heap.size + 1) (e4 b) 36 by rw [hW0]; exact Has.new1 _ _ _ _)
  have HB := Lib.hid (show Below w.heap.size w W0 by rw [hW0]; exact below_2 _ _ _)
  clear hW0
  refine wpBut_take (i := 0) rfl (by kernel_rfl) (by kernel_rfl) (by kernel_rfl) (by kernel_rfl) (by kernel_rfl) (fun _ _ _ h => h) (yieldsIf_load_row (by rfl) 36 _ rfl (w.heap.size) rfl 36 (e4 a) (fun _ h => M0.out.below h M0.out.lt) Try.underlying36 rfl (by rw [e4_size]; kernel_rfl)) ((Below.refl _ _).drew) ?_
  (try simp only [Act.put]); (try simp only [List.setIfInBounds_toArray])
  refine wpBut_take (i := 2) rfl (by kernel_rfl) (by kernel_rfl) (by kernel_rfl) (by kernel_rfl) (by kernel_rfl) (fun _ _ _ h => h) (yieldsIf_load_row (by rfl) 36 _ rfl (w.heap.size + 1) rfl 36 (e4 b) (fun _ h => M1.out.below h M1.out.lt) Try.underlying36 rfl (by rw [e4_size]; kernel_rfl)) ((Below.refl _ _).drew) ?_
  (try simp only [Act.put]); (try simp only [List.setIfInBounds_toArray])
  refine wpBut_one (i := 1) (by kernel_rfl) rfl (fun K hK => ?_)
  go_simp
  go_at_call 79
  refine (Hl1.out _).mono ?_
  rintro e wW01 ⟨rfl, hb⟩
  have hkW01 := held_next (Below.refl _ _).drew hb
  refine hK.out _ _ (fun _ => hkW01) ?_
  clear hK K hb
  refine wpBut_one (i := 3) (by kernel_rfl) rfl (fun K hK => ?_)
  go_simp
  go_at_call 79
  refine (Hl2.out _).mono ?_
  rintro e wW02 ⟨rfl, hb⟩
  have hkW02 := held_next hkW01 hb
  refine hK.out _ _ (fun _ => hkW02) ?_
  clear hK K hb
  refine wpBut_one (i := 4) (by kernel_rfl) rfl (fun K hK => ?_)
  go_simp
  refine hK.out _ _ (fun _ => hkW02) ?_
  clear hK K
  refine wpBut_one (i := 5) (by kernel_rfl) rfl (fun K hK => ?_)
  go_simp
  refine hK.out _ _ (fun _ => hkW02) ?_
  clear hK K
  refine wpBut_done (by kernel_rfl) (NoPanic.normal ?_)
  go_wp2_with fail
  go_ret
  exact ⟨rfl, held_next HB.out hkW02⟩

set_option maxRecDepth 100000 in
set_option maxHeartbeats 2000000 in
theorem even_any (a : Nat) (ha : a < 115792089237316195423570985008687907853269984665640564039457584007913129639936) (w : World) :
    Calls Try.prog 36 #[.agg (e4 a)] w fun e w' => e = .returned (.bool (a % PP % 2 == 0)) ∧ Below w.heap.size w w' := by
  have hl1 := fun w => fleast_any a ha w
  have hlt := modPP_lt a
  obtain ⟨x, hx⟩ : ∃ r, r = a % PP := ⟨_, rfl⟩
  rw [← hx] at hl1 hlt ⊢
  have hix := fun w => run_index_row w 36 34 4 .u64 Try.underlying36 Try.underlying34 sz_u64 (dg 18446744073709551616 x) 0 (by omega)
  rw [show row .u64 4 (dg 18446744073709551616 x) = e4 x from rfl] at hix
  have hd0 : dg 18446744073709551616 x 0 = ((x % 18446744073709551616 : Nat) : Int) := by unfold dg; rw [Nat.pow_zero, Nat.div_one]
  rw [hd0] at hix
  have hand := and_one (x % 18446744073709551616) (Nat.mod_lt _ (by decide))
  have hm : x % 18446744073709551616 % 2 = x % 2 := by omega
  rw [hm] at hand
  obtain ⟨y, hy⟩ : ∃ y, y = x % 18446744073709551616 := ⟨_, rfl⟩
  rw [← hy] at hix hand
  rw [show (((0 : Nat) : Int)) = 0 from rfl] at hix
  have M0 := Lib.hid (Has.new w (e4 a) 36)
  have hres : ((((x % 2 : Nat) : Int)) == 0) = (x % 2 == 0) := by
    rcases Nat.mod_two_eq_zero_or_one x with e | e <;> rw [e] <;> rfl
  obtain ⟨z, hz⟩ : ∃ z : Int, z = ((x % 2 : Nat) : Int) := ⟨_, rfl⟩
  rw [← hz] at hand hres
  rw [← hres]
  have Hl1 := Lib.hid hl1; clear hl1
  have Hz := Lib.hid hz; clear hz
  have Hres := Lib.hid hres; clear hres
  clear hx hlt hd0 hm hy ha
  go_enter Try.func36, Try.ntmps36
  go_wp2_with (refine wpList_load_row rfl 36 _ rfl (w.heap.size) rfl 36 (e4 a) (0, 0) _ M0.out Try.underlying36 rfl (by rw [e4_size]; kernel_rfl) ?_)
  refine (Hl1.out _).mono ?_
  rintro e w1 ⟨rfl, b1⟩
  have HB := Lib.hid (held_next (below_1 w (.cells (e4 a) 36)) b1); clear b1
  go_wp2_with fail
  go_ret
  exact ⟨rfl, HB.out⟩
end Go.Proofs.Ytjiagjonlcadiaa
