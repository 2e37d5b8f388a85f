/- The program's field and points, and the document's: what each function of theirs comes to, and the group of the points. -/
import Derived.Laws.Bits64b
import Derived.BigCall
import Derived.Test.YtjiagjonlcadiaaBa1
section
namespace Go.Proofs.Ytjiagjonlcadiaa
open Go.RowKit Go.Lib

theorem e4_small (x : Nat) (hx : x < 18446744073709551616) : (#[.int .u64 (x : Int), .int .u64 0, .int .u64 0, .int .u64 0] : Array Value) = e4 x := by
  have : e4 x = row .u64 4 (fun i => if i = 0 then (x : Int) else 0) := row_ext _ _ _ _ fun i hi => by
    unfold dg
    split
    · rename_i h; subst h; rw [Nat.pow_zero, Nat.div_one, Nat.mod_eq_of_lt hx]
    · rw [Nat.div_eq_of_lt (Nat.lt_of_lt_of_le hx (by
        have : 18446744073709551616 ^ 1 ≤ 18446744073709551616 ^ i := Nat.pow_le_pow_right (by decide) (by omega)
        simpa using this))]; rfl
  rw [this]; rfl
theorem top_word (A : Nat) (hA : A < 115792089237316195423570985008687907853269984665640564039457584007913129639936) : ∃ t : Nat, dg 18446744073709551616 A 3 = t ∧ t < 18446744073709551616 ∧ t / 9223372036854775808 = A / 57896044618658097711785492504343953926634992332820282019728792003956564819968 := by
  refine ⟨A / 18446744073709551616 ^ 3 % 18446744073709551616, rfl, Nat.mod_lt _ (by decide), ?_⟩
  have hp : (18446744073709551616 : Nat) ^ 3 = 6277101735386680763835789423207666416102355444464034512896 := by decide +kernel
  rw [hp]; omega
theorem least_round (A : Nat) : (A % 57896044618658097711785492504343953926634992332820282019728792003956564819968 + 19 * (A / 57896044618658097711785492504343953926634992332820282019728792003956564819968)) % PP = A % PP := by
  have e : 57896044618658097711785492504343953926634992332820282019728792003956564819968 = 19 + PP := by decide +kernel
  have h1 := Nat.div_add_mod A 57896044618658097711785492504343953926634992332820282019728792003956564819968
  generalize A % 57896044618658097711785492504343953926634992332820282019728792003956564819968 = x at *
  generalize A / 57896044618658097711785492504343953926634992332820282019728792003956564819968 = q at *
  rw [← h1, e, Nat.add_mul, show 19 * q + PP * q + x = x + 19 * q + PP * q by omega, Nat.add_mul_mod_self_left]

set_option maxRecDepth 100000 in
set_option maxHeartbeats 4000000 in
theorem fleast_any (n : Nat) (hn : n < 115792089237316195423570985008687907853269984665640564039457584007913129639936) (w : World) :
    Calls Try.prog 79 #[.agg (e4 n)] w fun e w' => e = .returned (.agg (e4 (n % PP))) ∧ Below w.heap.size w w' := by
  obtain ⟨r, hr⟩ : ∃ r, r = n % PP := ⟨_, rfl⟩
  rw [← hr]
  have Hn := Lib.hid hn; clear hn
  have Hr := Lib.hid hr; clear hr
  go_enter Try.func79, Try.ntmps79
  go_wp2_with fail
  go_loopw [5] (fun i wr => ∃ k A : Nat, k ≤ 2 ∧ i = .int .i64 k ∧ A % PP = r ∧ A < 115792089237316195423570985008687907853269984665640564039457584007913129639936 ∧ (1 ≤ k → A < 57896044618658097711785492504343953926634992332820282019728792003956564819987) ∧ (2 ≤ k → A < 57896044618658097711785492504343953926634992332820282019728792003956564819968) ∧ Has wr w.heap.size (e4 A) 36 ∧ HasN wr (w.heap.size + 1) 4 36 ∧ Below w.heap.size w wr) (fun i _ => 2 - (intOf i).toNat)
  case atStart => exact ⟨0, n, by omega, rfl, Hr.out.symm, Hn.out, fun h => by omega, fun h => by omega, (Has.new _ _ _).alloc _, HasN.new1 _ _ _ _ 4 rfl, below_2 _ _ _⟩
  case round =>
    obtain ⟨k, A, hk, rfl, hA, hA2, hk1, hk2, m0, m1, hB⟩ := hrel
    have M0 := Lib.hid m0; clear m0
    have M1 := Lib.hid m1; clear m1
    have HA := Lib.hid hA; clear hA
    have Hk1 := Lib.hid hk1; clear hk1
    have Hk2 := Lib.hid hk2; clear hk2
    by_cases hlt : k < 2
    · have h2 := M0.out.cell 3 (by omega)
      have hfz := M0.out.frozen 3
      obtain ⟨t, ht, htb, hov⟩ := top_word A hA2
      rw [ht] at h2
      have hand := and_top t htb
      have hrow := top_row A hA2 (dg 18446744073709551616 A) (fun _ _ => rfl) t ht
      obtain ⟨u, hu⟩ : ∃ u : Int, u = ((t % 9223372036854775808 : Nat) : Int) := ⟨_, rfl⟩
      rw [← hu] at hand hrow
      have m2 := M0.out.set 3 u
      rw [hrow] at m2
      have hlr := least_round A
      obtain ⟨B, hBe⟩ : ∃ B, B = A % 57896044618658097711785492504343953926634992332820282019728792003956564819968 := ⟨_, rfl⟩
      obtain ⟨o, ho⟩ : ∃ o, o = A / 57896044618658097711785492504343953926634992332820282019728792003956564819968 := ⟨_, rfl⟩
      rw [← hBe] at m2 hlr
      rw [← ho] at hlr hov
      have ho1 : o ≤ 1 := by omega
      have hB255 : B < 57896044618658097711785492504343953926634992332820282019728792003956564819968 := by omega
      have hshr : ((t : Nat) : Int) / 9223372036854775808 = (o : Int) := by omega
      have hpe := fun w => plus_exact B (19 * o) (by omega) (by omega) (by omega) w
      have hbl := e4_small (19 * o) (by omega)
      rw [Int.natCast_mul] at hbl
      have hbl' : (#[.int .u64 (19 * (o : Int)), .int .u64 0, .int .u64 0, .int .u64 0] : Array Value) = e4 (19 * o) := hbl
      obtain ⟨q, hq⟩ : ∃ q, q = 19 * o := ⟨_, rfl⟩
      obtain ⟨A', hA'⟩ : ∃ x, x = B + q := ⟨_, rfl⟩
      rw [← hq] at hpe hbl' hlr
      rw [← hA'] at hpe hlr
      have hk1' : 1 ≤ k + 1 → A' < 57896044618658097711785492504343953926634992332820282019728792003956564819987 := fun _ => by omega
      have hk2' : 2 ≤ k + 1 → A' < 57896044618658097711785492504343953926634992332820282019728792003956564819968 := fun hh => by have := Hk1.out (by omega); omega
      have hA2' : A' < 115792089237316195423570985008687907853269984665640564039457584007913129639936 := by omega
      have Hmod := Lib.hid (show A' % PP = r by rw [hlr]; exact HA.out)
      have M1' := Lib.hid (M1.out.other ⟨w.heap.size, 3, none⟩ (.int .u64 u) (by simp <;> omega))
      have HB' := Lib.hid (hB.setCell (p := ⟨w.heap.size, 3, none⟩) (Nat.le_refl _) (.int .u64 u))
      have Hpe := Lib.hid hpe; clear hpe
      have Hk1' := Lib.hid hk1'; clear hk1'
      have Hk2' := Lib.hid hk2'; clear hk2'
      have HA2' := Lib.hid hA2'; clear hA2'
      have M2 := Lib.hid m2; clear m2
      clear hA' hq hbl ho hBe hlr hrow hu hov M0 M1 hA2 hB
      go_wp2_with (refine wpList_load_row rfl 36 _ rfl (w.heap.size) rfl 36 (e4 B) (0, 0) _ M2.out Try.underlying36 rfl (by rw [e4_size]; kernel_rfl) ?_)
      refine (Hpe.out _).mono ?_
      rintro e w1 ⟨rfl, b1⟩
      have n1 := M1'.out.call b1
      obtain ⟨Z, hZ, mz⟩ := (M2.out.toN (e4_size _)).call b1
      have hB2 := held_next HB'.out b1
      have q0 := mz.setRow (e4 A')
      have q1 := n1.setRow_other w.heap.size (e4 A') (by omega)
      have hB3 := below_setRow hB2 w.heap.size (e4 A') (Nat.le_refl _)
      clear n1 b1 hB2
      have Mz := Lib.hid mz; clear mz
      have HZ := Lib.hid hZ; clear hZ
      have Q0 := Lib.hid q0; clear q0
      have Q1 := Lib.hid q1; clear q1
      have HB3 := Lib.hid hB3; clear hB3
      go_wp2_with (refine wpList_store_row rfl 36 _ _ rfl (w.heap.size) _ rfl rfl 36 Z Mz.out (by rw [e4_size]; kernel_rfl) (HZ.out.trans (e4_size _).symm) (row_one _ _ _) ?_)
      go_roundw
      case measure => simp [intOf]; omega
      case rel => exact ⟨k + 1, A', by omega, by go_num, Hmod.out, HA2'.out, Hk1'.out, Hk2'.out, Q0.out, Q1.out, HB3.out⟩
    · obtain rfl : k = 2 := by omega
      have h255 := Hk2.out (by omega)
      have hpe := fun w => plus_exact A 19 hA2 (by omega) (by omega) w
      have hbl := e4_small 19 (by omega)
      have hbl' : (#[.int .u64 19, .int .u64 0, .int .u64 0, .int .u64 0] : Array Value) = e4 19 := hbl
      obtain ⟨b, hb⟩ : ∃ b, b = A + 19 := ⟨_, rfl⟩
      rw [← hb] at hpe
      have hb256 : b < 115792089237316195423570985008687907853269984665640564039457584007913129639936 := by omega
      have Hpe := Lib.hid hpe; clear hpe
      have Hb := Lib.hid hb; clear hb
      clear hbl
      go_wp2_with (refine wpList_load_row rfl 36 _ rfl (w.heap.size) rfl 36 (e4 A) (0, 0) _ M0.out Try.underlying36 rfl (by rw [e4_size]; kernel_rfl) ?_)
      refine (Hpe.out _).mono ?_
      rintro e w1 ⟨rfl, b1⟩
      have n0 := (M0.out.call b1).alloc (.cells (#[.int .u64 0, .int .u64 0, .int .u64 0, .int .u64 0] : Array Value) 36)
      have n1 := (M1.out.call b1).alloc (.cells (#[.int .u64 0, .int .u64 0, .int .u64 0, .int .u64 0] : Array Value) 36)
      have hB2 := (held_next hB b1).alloc (held_next hB b1).size (.cells (#[.int .u64 0, .int .u64 0, .int .u64 0, .int .u64 0] : Array Value) 36)
      have hl1 := (M1.out.call b1).lt
      obtain ⟨Z, hZ, mz⟩ := HasN.new w1 (#[.int .u64 0, .int .u64 0, .int .u64 0, .int .u64 0] : Array Value) 36 4 rfl
      have q0 := n0.setRow_other w1.heap.size (e4 b) (by omega)
      have q1 := n1.setRow_other w1.heap.size (e4 b) (by omega)
      have q2 := mz.setRow (e4 b)
      have hB3 := below_setRow hB2 w1.heap.size (e4 b) (held_next hB b1).size
      have h2 := q2.cell 3 (by omega)
      have hfz := q2.frozen 3
      obtain ⟨t, ht, htb, hov⟩ := top_word b hb256
      rw [ht] at h2
      by_cases hc : b < 57896044618658097711785492504343953926634992332820282019728792003956564819968
      · have hz : (t : Int) / 9223372036854775808 = 0 := by omega
        have hfin : A = r := by
          have := HA.out
          rw [Nat.mod_eq_of_lt (by rw [PP_val]; have := Hb.out; omega)] at this
          exact this
        obtain ⟨Z', hZ', mz'⟩ := q1
        have HBB := Lib.hid (below_setRow hB3 (w.heap.size + 1) (e4 A) (by omega))
        have Mz := Lib.hid mz; clear mz
        have HZ := Lib.hid hZ; clear hZ
        have Q0 := Lib.hid q0; clear q0
        have Q2 := Lib.hid q2; clear q2
        have Mz' := Lib.hid mz'; clear mz'
        have HZ' := Lib.hid hZ'; clear hZ'
        have Hfin := Lib.hid hfin; clear hfin
        have Ht := Lib.hid ht; clear ht
        clear n0 n1 hB2 hB3 b1 M0 M1 hc hov
        go_wp2_with (first | (refine wpList_store_row rfl 36 _ _ rfl (w1.heap.size) _ rfl rfl 36 Z Mz.out (by rw [e4_size]; kernel_rfl) (HZ.out.trans (e4_size _).symm) (row_one _ _ _) ?_) | (refine wpList_load_row rfl 36 _ rfl (w.heap.size) rfl 36 (e4 A) (0, 0) _ Q0.out Try.underlying36 rfl (by rw [e4_size]; kernel_rfl) ?_) | (refine wpList_store_row rfl 36 _ _ rfl (w.heap.size + 1) _ rfl rfl 36 Z' Mz'.out (by rw [e4_size]; kernel_rfl) (HZ'.out.trans (e4_size _).symm) (row_one _ _ _) ?_))
        exact bodyPost_ret (v := .agg (e4 A)) (results_cell_row (t := 36) (by rfl) _ _ (w.heap.size + 1) _ _ _ rfl (Mz'.out.setRow _) Try.underlying36 rfl (by rw [e4_size]; kernel_rfl)) rfl ⟨by rw [Hfin.out], HBB.out⟩
      · have hz : (t : Int) / 9223372036854775808 = 1 := by omega
        have hand := and_top t htb
        have hrow := top_row b hb256 (dg 18446744073709551616 b) (fun _ _ => rfl) t ht
        obtain ⟨u, hu⟩ : ∃ u : Int, u = ((t % 9223372036854775808 : Nat) : Int) := ⟨_, rfl⟩
        rw [← hu] at hand hrow
        have q3 := q2.set 3 u
        rw [hrow] at q3
        have hfin : b % 57896044618658097711785492504343953926634992332820282019728792003956564819968 = r := by
          rw [← HA.out, Nat.mod_eq_sub_mod (show PP ≤ A by rw [PP_val]; have := Hb.out; omega), Nat.mod_eq_of_lt (show A - PP < PP by rw [PP_val]; omega), PP_val]
          have := Hb.out; omega
        rw [hfin] at q3
        obtain ⟨Z', hZ', mz'⟩ := q1.other ⟨w1.heap.size, 3, none⟩ (.int .u64 u) (by simp <;> omega)
        have HBB := Lib.hid (below_setRow (hB3.setCell (p := ⟨w1.heap.size, 3, none⟩) (held_next hB b1).size (.int .u64 u)) (w.heap.size + 1) (e4 r) (by omega))
        have Mz := Lib.hid mz; clear mz
        have HZ := Lib.hid hZ; clear hZ
        have Q2 := Lib.hid q2; clear q2
        have Q3 := Lib.hid q3; clear q3
        have Mz' := Lib.hid mz'; clear mz'
        have HZ' := Lib.hid hZ'; clear hZ'
        have Hfin := Lib.hid hfin; clear hfin
        have Ht := Lib.hid ht; clear ht
        clear n0 n1 hB2 hB3 b1 M0 M1 hc hov hu hrow
        go_wp2_with (first | (refine wpList_store_row rfl 36 _ _ rfl (w1.heap.size) _ rfl rfl 36 Z Mz.out (by rw [e4_size]; kernel_rfl) (HZ.out.trans (e4_size _).symm) (row_one _ _ _) ?_) | (refine wpList_load_row rfl 36 _ rfl (w1.heap.size) rfl 36 (e4 r) (0, 0) _ Q3.out Try.underlying36 rfl (by rw [e4_size]; kernel_rfl) ?_) | (refine wpList_store_row rfl 36 _ _ rfl (w.heap.size + 1) _ rfl rfl 36 Z' Mz'.out (by rw [e4_size]; kernel_rfl) (HZ'.out.trans (e4_size _).symm) (row_one _ _ _) ?_))
        exact bodyPost_ret (v := .agg (e4 r)) (results_cell_row (t := 36) (by rfl) _ _ (w.heap.size + 1) _ _ _ rfl (Mz'.out.setRow _) Try.underlying36 rfl (by rw [e4_size]; kernel_rfl)) rfl ⟨rfl, HBB.out⟩
end Go.Proofs.Ytjiagjonlcadiaa
end
section
namespace Go.Proofs.Ytjiagjonlcadiaa
open Go.RowKit Go.Lib

theorem key_byte (n k : Nat) : (n / 18446744073709551616 ^ (k / 8) % 18446744073709551616) / 2 ^ (8 * (k % 8)) % 256 = n / 256 ^ k % 256 := by
  have e : 256 ^ k = 18446744073709551616 ^ (k / 8) * 256 ^ (k % 8) := by
    rw [show (18446744073709551616 : Nat) = 256 ^ 8 by decide, ← Nat.pow_mul, ← Nat.pow_add, Nat.div_add_mod]
  rw [e, ← Nat.div_div_eq_div_mul]
  generalize n / 18446744073709551616 ^ (k / 8) = q
  have hr : k % 8 < 8 := Nat.mod_lt _ (by decide)
  generalize k % 8 = r at *
  rcases (show r = 0 ∨ r = 1 ∨ r = 2 ∨ r = 3 ∨ r = 4 ∨ r = 5 ∨ r = 6 ∨ r = 7 by omega) with rfl | rfl | rfl | rfl | rfl | rfl | rfl | rfl <;> simp <;> omega
theorem key_byte_int (n k : Nat) (x : Int) (hx : x = dg 18446744073709551616 n (k / 8)) : x / 2 ^ (8 * (k % 8)) % 256 = dg 256 n k := by
  rw [hx, dg, dg, ← key_byte n k]
  generalize n / 18446744073709551616 ^ (k / 8) % 18446744073709551616 = q
  generalize 8 * (k % 8) = m
  rw [Int.natCast_emod, Int.natCast_ediv, Int.natCast_pow]
  rfl
theorem and_one (a : Nat) (ha : a < 18446744073709551616) : bits .and .u64 (a : Int) 1 = ((a % 2 : Nat) : Int) := by
  have h := bits_and_u64_nat a 1 ha (by omega)
  have e : a &&& 1 = a % 2 := Nat.and_two_pow_sub_one_eq_mod a 1
  rw [e] at h
  exact h
theorem div_pow_bd64 (x : Int) (k : Nat) (h0 : 0 ≤ x) (h1 : x < 18446744073709551616) : 0 ≤ x / 2 ^ k ∧ x / 2 ^ k < 18446744073709551616 := by
  have hp : (0 : Int) < 2 ^ k := Int.pow_pos (by decide)
  refine ⟨Int.ediv_nonneg h0 (Int.le_of_lt hp), ?_⟩
  have := Int.ediv_le_self (2 ^ k) h0
  omega
theorem e4_eq (x y : Nat) (hx : x < 115792089237316195423570985008687907853269984665640564039457584007913129639936) (hy : y < 115792089237316195423570985008687907853269984665640564039457584007913129639936) (w : World) : (Op.equalIn 10000 36 (.agg (e4 x)) (.agg (e4 y))).run Try.prog w = .ok (decide (x = y)) w := by
  rw [← eqr_dg 18446744073709551616 4 x y (by rw [n64_4]; exact hx) (by rw [n64_4]; exact hy)]
  exact run_equalIn_row w 9998 36 34 4 .u64 Try.underlying36 Try.underlying34 sz_u64 _ _
theorem modPP_lt (n : Nat) : n % PP < 115792089237316195423570985008687907853269984665640564039457584007913129639936 := Nat.lt_trans (Nat.mod_lt _ PP_pos) (by decide +kernel)

set_option maxRecDepth 100000 in
set_option maxHeartbeats 2000000 in
theorem key_any (n : Nat) (hn : n < 115792089237316195423570985008687907853269984665640564039457584007913129639936) (w : World) :
    Calls Try.prog 73 #[.agg (e4 n)] w fun e w' => e = .returned (.agg (k32 (n % PP))) ∧ Below w.heap.size w w' := by
  have hl := fun w => fleast_any n hn w
  obtain ⟨r, hr⟩ : ∃ r, r = n % PP := ⟨_, rfl⟩
  rw [← hr] at hl ⊢
  have Hl := Lib.hid hl; clear hl
  clear hr hn
  go_enter Try.func73, Try.ntmps73
  have M0 := Lib.hid ((Has.new w (e4 n) 36).alloc (.cells (#[.int .u8 0, .int .u8 0, .int .u8 0, .int .u8 0, .int .u8 0, .int .u8 0, .int .u8 0, .int .u8 0, .int .u8 0, .int .u8 0, .int .u8 0, .int .u8 0, .int .u8 0, .int .u8 0, .int .u8 0, .int .u8 0, .int .u8 0, .int .u8 0, .int .u8 0, .int .u8 0, .int .u8 0, .int .u8 0, .int .u8 0, .int .u8 0, .int .u8 0, .int .u8 0, .int .u8 0, .int .u8 0, .int .u8 0, .int .u8 0, .int .u8 0, .int .u8 0] : Array Value) 24))
  go_wp2_with (refine wpList_load_row rfl 36 _ rfl (w.heap.size) rfl 36 (e4 n) (0, 0) _ M0.out Try.underlying36 rfl (by rw [e4_size]; kernel_rfl) ?_)
  refine (Hl.out _).mono ?_
  rintro e w1 ⟨rfl, b1⟩
  obtain ⟨Z, hZ, mz⟩ := (M0.out.toN (e4_size _)).call b1
  have m1 := (Has.new1 w (.cells (e4 n) 36) (#[.int .u8 0, .int .u8 0, .int .u8 0, .int .u8 0, .int .u8 0, .int .u8 0, .int .u8 0, .int .u8 0, .int .u8 0, .int .u8 0, .int .u8 0, .int .u8 0, .int .u8 0, .int .u8 0, .int .u8 0, .int .u8 0, .int .u8 0, .int .u8 0, .int .u8 0, .int .u8 0, .int .u8 0, .int .u8 0, .int .u8 0, .int .u8 0, .int .u8 0, .int .u8 0, .int .u8 0, .int .u8 0, .int .u8 0, .int .u8 0, .int .u8 0, .int .u8 0] : Array Value) 24).call b1
  have q0 := mz.setRow (e4 r)
  have q1 := m1.setRow_other w.heap.size (e4 r) (by omega)
  have hB := below_setRow (held_next (below_2 w (.cells (e4 n) 36) (.cells (#[.int .u8 0, .int .u8 0, .int .u8 0, .int .u8 0, .int .u8 0, .int .u8 0, .int .u8 0, .int .u8 0, .int .u8 0, .int .u8 0, .int .u8 0, .int .u8 0, .int .u8 0, .int .u8 0, .int .u8 0, .int .u8 0, .int .u8 0, .int .u8 0, .int .u8 0, .int .u8 0, .int .u8 0, .int .u8 0, .int .u8 0, .int .u8 0, .int .u8 0, .int .u8 0, .int .u8 0, .int .u8 0, .int .u8 0, .int .u8 0, .int .u8 0, .int .u8 0] : Array Value) 24)) b1) w.heap.size (e4 r) (Nat.le_refl _)
  clear M0 m1 b1
  have Mz := Lib.hid mz; clear mz
  have HZ := Lib.hid hZ; clear hZ
  have Q0 := Lib.hid q0; clear q0
  have Q1 := Lib.hid q1; clear q1
  have HB := Lib.hid hB; clear hB
  go_wp2_with (refine wpList_store_row rfl 36 _ _ rfl (w.heap.size) _ rfl rfl 36 Z Mz.out (by rw [e4_size]; kernel_rfl) (HZ.out.trans (e4_size _).symm) (row_one _ _ _) ?_)
  clear Mz HZ
  go_loopw [6] (fun i wr => ∃ (k : Nat) (h : Nat → Int), k ≤ 32 ∧ i = .int .i64 k ∧ (∀ j, j < k → h j = dg 256 r j) ∧ Has wr w.heap.size (e4 r) 36 ∧ Has wr (w.heap.size + 1) (row .u8 32 h) 24 ∧ Below w.heap.size w wr) (fun i _ => 32 - (intOf i).toNat)
  case atStart => exact ⟨0, fun _ => 0, by omega, rfl, fun j hj => by omega, Q0.out, Q1.out, HB.out⟩
  case round =>
    clear Q0 Q1 HB
    obtain ⟨k, h, hk, rfl, hh, m0, m1, hB⟩ := hrel
    have M0 := Lib.hid m0; clear m0
    have M1 := Lib.hid m1; clear m1
    have Hh := Lib.hid hh; clear hh
    by_cases hlt : k < 32
    · have h1 := M0.out.cell (k / 8) (by omega)
      have h2 := M1.out.cell k hlt
      have hfz := M1.out.frozen k
      have x0 := w_nn r (k / 8)
      have x1 := w_lt r (k / 8)
      obtain ⟨x, hx⟩ : ∃ x, x = dg 18446744073709551616 r (k / 8) := ⟨_, rfl⟩
      rw [← hx] at h1 x0 x1
      have hkb := key_byte_int r k x hx
      obtain ⟨s0, s1⟩ := div_pow_bd64 x (8 * (k % 8)) x0 x1
      have k2 : (0 : Int) ≤ (k : Int) / 8 := by omega
      have k3 : (k : Int) / 8 < 4 := by omega
      have k4 : (0 : Int) ≤ 8 * ((k : Int) % 8) := by omega
      have k5 : 8 * ((k : Int) % 8) < 64 := by omega
      have Hx := Lib.hid hx; clear hx
      have Hkb := Lib.hid hkb; clear hkb
      go_wp2_with fail
      go_roundw
      case measure => simp [intOf]; omega
      case rel =>
        refine ⟨k + 1, upd h k (x / 2 ^ (8 * (k % 8)) % 256), by omega, by go_num, ?_, M0.out.other _ _ (by simp <;> omega), M1.out.set _ _, hB.setCell (by simp <;> omega) _⟩
        intro j hj
        by_cases e : j = k
        · subst e; rw [upd_same]; exact Hkb.out
        · rw [upd_ne _ _ _ _ e]; exact Hh.out j (by omega)
    · obtain rfl : k = 32 := by omega
      have m1 := M1.out
      rw [show row .u8 32 h = k32 r from row_ext _ _ _ _ Hh.out] at m1
      have P1 := Lib.hid m1; clear m1 M1
      have P2 := Lib.hid (P1.out.setRow (k32 r))
      go_wp2_with (first | (refine wpList_load_row rfl 24 _ rfl (w.heap.size + 1) rfl 24 (k32 r) (0, 0) _ P1.out Try.underlying24 rfl (by rw [k32_size]; kernel_rfl) ?_) | (refine wpList_store_row rfl 24 _ _ rfl (w.heap.size + 1) _ rfl rfl 24 (k32 r) P1.out (by rw [k32_size]; kernel_rfl) rfl (row_one _ _ _) ?_))
      exact bodyPost_ret (v := .agg (k32 r)) (results_cell_row (t := 24) (by rfl) _ _ (w.heap.size + 1) _ _ _ rfl P2.out Try.underlying24 rfl (by rw [k32_size]; kernel_rfl)) rfl ⟨rfl, below_setRow hB _ _ (by omega)⟩

set_option maxRecDepth 100000 in
set_option maxHeartbeats 2000000 in
theorem is_any (a b : Nat) (ha : a < 115792089237316195423570985008687907853269984665640564039457584007913129639936) (hb : b < 115792089237316195423570985008687907853269984665640564039457584007913129639936) (w : World) :
    Calls Try.prog 41 #[.agg (e4 a), .agg (e4 b)] w fun e w' => e = .returned (.bool (decide (a % PP = b % PP))) ∧ Below w.heap.size w w' := by
  have hl1 := fun w => fleast_any a ha w
  have hl2 := fun w => fleast_any b hb w
  have heq := fun w => e4_eq (a % PP) (b % PP) (modPP_lt a) (modPP_lt b) w
  obtain ⟨x, hx⟩ : ∃ r, r = a % PP := ⟨_, rfl⟩
  obtain ⟨y, hy⟩ : ∃ r, r = b % PP := ⟨_, rfl⟩
  rw [← hx] at hl1 heq ⊢
  rw [← hy] at hl2 heq ⊢
  have Hl1 := Lib.hid hl1; clear hl1
  have Hl2 := Lib.hid hl2; clear hl2
  obtain ⟨d, hd⟩ : ∃ d, d = decide (x = y) := ⟨_, rfl⟩
  rw [← hd] at heq ⊢
  clear hx hy ha hb hd
  go_enter Try.func41, Try.ntmps41
  go_wp2_with fail
  refine wp_region_noPanic ?_
  refine wp_region_below 99 (by kernel_rfl) ?_
  intro W0 hW0
  have M0 := Lib.hid (show Has W0 w.heap.size (e4 a) 36 by rw [hW0]; exact (Has.new _ _ _).alloc _)
  have M1 := Lib.hid (show Has W0 (w.heap.size + 1) (e4 b) 36 by rw [hW0]; exact Has.new1 _ _ _ _)
  have HB := Lib.hid (show Below w.heap.size w W0 by rw [hW0]; exact below_2 _ _ _)
  clear hW0
  refine wpBut_take (i := 0) rfl (by kernel_rfl) (by kernel_rfl) (by kernel_rfl) (by kernel_rfl) (by kernel_rfl) (fun _ _ _ h => h) (yieldsIf_load_row (by rfl) 36 _ rfl (w.heap.size) rfl 36 (e4 a) (fun _ h => M0.out.below h M0.out.lt) Try.underlying36 rfl (by rw [e4_size]; kernel_rfl)) ((Below.refl _ _).drew) ?_
  (try simp only [Act.put]); (try simp only [List.setIfInBounds_toArray])
  refine wpBut_take (i := 2) rfl (by kernel_rfl) (by kernel_rfl) (by kernel_rfl) (by kernel_rfl) (by kernel_rfl) (fun _ _ _ h => h) (yieldsIf_load_row (by rfl) 36 _ rfl (w.heap.size + 1) rfl 36 (e4 b) (fun _ h => M1.out.below h M1.out.lt) Try.underlying36 rfl (by rw [e4_size]; kernel_rfl)) ((Below.refl _ _).drew) ?_
  (try simp only [Act.put]); (try simp only [List.setIfInBounds_toArray])
  refine wpBut_one (i := 1) (by kernel_rfl) rfl (fun K hK => ?_)
  go_simp
  go_at_call 79
  refine (Hl1.out _).mono ?_
  rintro e wW01 ⟨rfl, hb⟩
  have hkW01 := held_next (Below.refl _ _).drew hb
  refine hK.out _ _ (fun _ => hkW01) ?_
  clear hK K hb
  refine wpBut_one (i := 3) (by kernel_rfl) rfl (fun K hK => ?_)
  go_simp
  go_at_call 79
  refine (Hl2.out _).mono ?_
  rintro e wW02 ⟨rfl, hb⟩
  have hkW02 := held_next hkW01 hb
  refine hK.out _ _ (fun _ => hkW02) ?_
  clear hK K hb
  refine wpBut_one (i := 4) (by kernel_rfl) rfl (fun K hK => ?_)
  go_simp
  refine hK.out _ _ (fun _ => hkW02) ?_
  clear hK K
  refine wpBut_one (i := 5) (by kernel_rfl) rfl (fun K hK => ?_)
  go_simp
  refine hK.out _ _ (fun _ => hkW02) ?_
  clear hK K
  refine wpBut_done (by kernel_rfl) (NoPanic.normal ?_)
  go_wp2_with fail
  go_ret
  exact ⟨rfl, held_next HB.out hkW02⟩

set_option maxRecDepth 100000 in
set_option maxHeartbeats 2000000 in
theorem even_any (a : Nat) (ha : a < 115792089237316195423570985008687907853269984665640564039457584007913129639936) (w : World) :
    Calls Try.prog 36 #[.agg (e4 a)] w fun e w' => e = .returned (.bool (a % PP % 2 == 0)) ∧ Below w.heap.size w w' := by
  have hl1 := fun w => fleast_any a ha w
  have hlt := modPP_lt a
  obtain ⟨x, hx⟩ : ∃ r, r = a % PP := ⟨_, rfl⟩
  rw [← hx] at hl1 hlt ⊢
  have hix := fun w => run_index_row w 36 34 4 .u64 Try.underlying36 Try.underlying34 sz_u64 (dg 18446744073709551616 x) 0 (by omega)
  rw [show row .u64 4 (dg 18446744073709551616 x) = e4 x from rfl] at hix
  have hd0 : dg 18446744073709551616 x 0 = ((x % 18446744073709551616 : Nat) : Int) := by unfold dg; rw [Nat.pow_zero, Nat.div_one]
  rw [hd0] at hix
  have hand := and_one (x % 18446744073709551616) (Nat.mod_lt _ (by decide))
  have hm : x % 18446744073709551616 % 2 = x % 2 := by omega
  rw [hm] at hand
  obtain ⟨y, hy⟩ : ∃ y, y = x % 18446744073709551616 := ⟨_, rfl⟩
  rw [← hy] at hix hand
  rw [show (((0 : Nat) : Int)) = 0 from rfl] at hix
  have M0 := Lib.hid (Has.new w (e4 a) 36)
  have hres : ((((x % 2 : Nat) : Int)) == 0) = (x % 2 == 0) := by
    rcases Nat.mod_two_eq_zero_or_one x with e | e <;> rw [e] <;> rfl
  obtain ⟨z, hz⟩ : ∃ z : Int, z = ((x % 2 : Nat) : Int) := ⟨_, rfl⟩
  rw [← hz] at hand hres
  rw [← hres]
  have Hl1 := Lib.hid hl1; clear hl1
  have Hz := Lib.hid hz; clear hz
  have Hres := Lib.hid hres; clear hres
  clear hx hlt hd0 hm hy ha
  go_enter Try.func36, Try.ntmps36
  go_wp2_with (refine wpList_load_row rfl 36 _ rfl (w.heap.size) rfl 36 (e4 a) (0, 0) _ M0.out Try.underlying36 rfl (by rw [e4_size]; kernel_rfl) ?_)
  refine (Hl1.out _).mono ?_
  rintro e w1 ⟨rfl, b1⟩
  have HB := Lib.hid (held_next (below_1 w (.cells (e4 a) 36)) b1); clear b1
  go_wp2_with fail
  go_ret
  exact ⟨rfl, HB.out⟩
end Go.Proofs.Ytjiagjonlcadiaa
end
section
namespace Go.Proofs.Ytjiagjonlcadiaa
open Go.RowKit Go.Lib

set_option maxRecDepth 100000 in
set_option maxHeartbeats 1000000 in
theorem fint_nn (n : Nat) (hn : n < 9223372036854775808) (w : World) :
    Calls Try.prog 34 #[.int .i64 n] w fun e w' => e = .returned (.agg (e4 n)) ∧ Below w.heap.size w w' := by
  have hbl := e4_small n (by omega)
  obtain ⟨Z, hZ, mz⟩ := HasN.new w (#[.int .u64 0, .int .u64 0, .int .u64 0, .int .u64 0] : Array Value) 36 4 rfl
  have Mz := Lib.hid mz; clear mz
  have HZ := Lib.hid hZ; clear hZ
  go_enter Try.func34, Try.ntmps34
  go_wp2_with (refine wpList_store_row rfl 36 _ _ rfl (w.heap.size) _ rfl rfl 36 Z Mz.out (by rw [e4_size]; kernel_rfl) (HZ.out.trans (e4_size _).symm) (row_one _ _ _) ?_)
  exact bodyPost_ret (v := .agg (e4 n)) (results_cell_row (t := 36) (by rfl) _ _ (w.heap.size) _ _ _ rfl (Mz.out.setRow _) Try.underlying36 rfl (by rw [e4_size]; kernel_rfl)) rfl ⟨rfl, below_setRow (below_1 _ _) _ _ (Nat.le_refl _)⟩

theorem e4_zero : (#[.int .u64 0, .int .u64 0, .int .u64 0, .int .u64 0] : Array Value) = e4 0 := e4_small 0 (by omega)
theorem e4_one : (#[.int .u64 1, .int .u64 0, .int .u64 0, .int .u64 0] : Array Value) = e4 1 := e4_small 1 (by omega)

set_option maxRecDepth 100000 in
set_option maxHeartbeats 1000000 in
theorem fint_neg (n : Int) (hn : n < 0) (hn2 : -9223372036854775808 ≤ n) (w : World) :
    Calls Try.prog 34 #[.int .i64 n] w (ElP (n % (PP : Int)).toNat w) := by
  obtain ⟨m, hm⟩ : ∃ m : Nat, -(n + 1) = (m : Int) := ⟨(-(n + 1)).toNat, by omega⟩
  have hres := int_num n m (by omega)
  obtain ⟨r, hr⟩ : ∃ r, r = (n % (PP : Int)).toNat := ⟨_, rfl⟩
  rw [← hr] at hres ⊢
  have hm0 : m < 9223372036854775808 := by omega
  have hmin1 := fun w => minus_any 0 m (by omega) (by omega) w
  rw [show 0 % PP = 0 from Nat.zero_mod _] at hmin1
  obtain ⟨y, hy⟩ : ∃ y, y = (0 + (PP - m % PP)) % PP := ⟨_, rfl⟩
  rw [← hy] at hmin1 hres
  have hmin2 := fun m1 h w => minus_any m1 1 h (by omega) w
  have hbl := e4_small m (by omega)
  have hb0 := e4_zero
  have hb1 := e4_one
  have Hmin1 := Lib.hid hmin1; clear hmin1
  have Hmin2 := Lib.hid hmin2; clear hmin2
  have Hres := Lib.hid hres; clear hres
  have Hm := Lib.hid hm; clear hm
  have Hbl := Lib.hid hbl; clear hbl
  have Hb0 := Lib.hid hb0; clear hb0
  have Hb1 := Lib.hid hb1; clear hb1
  clear hr hy hm0
  have hd : decide (0 ≤ n) = false := by simp; omega
  go_enter Try.func34, Try.ntmps34
  go_wp2_with fail
  rw [Hm.out, Hbl.out, Hb0.out]
  refine (Hmin1.out _).mono ?_
  rintro e w1 ⟨m1, hm1, hm1r, rfl, b1⟩
  have B1 := Lib.hid b1; clear b1
  have Hm1 := Lib.hid hm1; clear hm1
  have Hm1r := Lib.hid hm1r; clear hm1r
  go_wp2_with fail
  refine (Hmin2.out m1 Hm1.out _).mono ?_
  rintro e w2 ⟨m2, hm2, hm2r, rfl, b2⟩
  obtain ⟨Z, hZ, mz⟩ := ((HasN.new w (e4 0) 36 4 (e4_size _)).call B1.out).call b2
  have HBB := Lib.hid (below_setRow (held_next (held_next (below_1 w (.cells (e4 0) 36)) B1.out) b2) w.heap.size (e4 m2) (Nat.le_refl _))
  have hfin : m2 % PP = r := by rw [hm2r, Hm1r.out]; exact Hres.out
  have Mz := Lib.hid mz; clear mz
  have HZ := Lib.hid hZ; clear hZ
  have Hm2 := Lib.hid hm2; clear hm2
  have Hfin := Lib.hid hfin; clear hfin
  clear hm2r b2
  go_wp2_with (refine wpList_store_row rfl 36 _ _ rfl (w.heap.size) _ rfl rfl 36 Z Mz.out (by rw [e4_size]; kernel_rfl) (HZ.out.trans (e4_size _).symm) (row_one _ _ _) ?_)
  exact bodyPost_ret (v := .agg (e4 m2)) (results_cell_row (t := 36) (by rfl) _ _ (w.heap.size) _ _ _ rfl (Mz.out.setRow _) Try.underlying36 rfl (by rw [e4_size]; kernel_rfl)) rfl ⟨m2, Hm2.out, Hfin.out, rfl, HBB.out⟩

theorem sq_next (A a k : Nat) (h : A % PP = pwm a (2 ^ k)) : A * A % PP = pwm a (2 ^ (k + 1)) := by
  unfold pwm at *
  rw [Nat.mul_mod, h, ← Nat.mul_mod, ← Nat.pow_add, Nat.pow_succ, Nat.mul_two]

set_option maxRecDepth 100000 in
set_option maxHeartbeats 1000000 in
theorem squares_any (a n : Nat) (ha : a < 115792089237316195423570985008687907853269984665640564039457584007913129639936) (hn : n ≤ 1000) (w : World) :
    Calls Try.prog 83 #[.agg (e4 a), .int .i64 n] w (ElP (pwm a (2 ^ n)) w) := by
  have ht := fun x h w => times_any x x h h w
  have h0 : a % PP = pwm a (2 ^ 0) := by unfold pwm; rw [Nat.pow_zero, Nat.pow_one]
  have Ht := Lib.hid ht; clear ht
  have Ha := Lib.hid ha; clear ha
  have H0 := Lib.hid h0; clear h0
  go_enter Try.func83, Try.ntmps83
  go_wp2_with fail
  go_loopw [6] (fun i wr => ∃ k A : Nat, k ≤ n ∧ i = .int .i64 k ∧ A < 115792089237316195423570985008687907853269984665640564039457584007913129639936 ∧ A % PP = pwm a (2 ^ k) ∧ Has wr w.heap.size (e4 A) 36 ∧ HasN wr (w.heap.size + 1) 4 36 ∧ Below w.heap.size w wr) (fun i _ => n - (intOf i).toNat)
  case atStart => exact ⟨0, a, by omega, rfl, Ha.out, H0.out, (Has.new _ _ _).alloc _, HasN.new1 _ _ _ _ 4 rfl, below_2 _ _ _⟩
  case round =>
    obtain ⟨k, A, hk, rfl, hA, hm, m0, m1, hB⟩ := hrel
    have M0 := Lib.hid m0; clear m0
    have M1 := Lib.hid m1; clear m1
    have HA := Lib.hid hA; clear hA
    have Hm := Lib.hid hm; clear hm
    by_cases hlt : k < n
    · go_wp2_with (refine wpList_load_row rfl 36 _ rfl (w.heap.size) rfl 36 (e4 A) (0, 0) _ M0.out Try.underlying36 rfl (by rw [e4_size]; kernel_rfl) ?_)
      refine (Ht.out A HA.out _).mono ?_
      rintro e w1 ⟨m, hm', hmr, rfl, b1⟩
      obtain ⟨Z, hZ, mz⟩ := (M0.out.toN (e4_size _)).call b1
      have q0 := mz.setRow (e4 m)
      have q1 := (M1.out.call b1).setRow_other w.heap.size (e4 m) (by omega)
      have hB2 := below_setRow (held_next hB b1) w.heap.size (e4 m) (Nat.le_refl _)
      have hmr2 := hmr.trans (sq_next A a k Hm.out)
      have Mz := Lib.hid mz; clear mz
      have HZ := Lib.hid hZ; clear hZ
      have Q0 := Lib.hid q0; clear q0
      have Q1 := Lib.hid q1; clear q1
      have HB2 := Lib.hid hB2; clear hB2
      have Hm' := Lib.hid hm'; clear hm'
      have Hmr2 := Lib.hid hmr2; clear hmr2
      clear b1 hmr M0 M1
      go_wp2_with (refine wpList_store_row rfl 36 _ _ rfl (w.heap.size) _ rfl rfl 36 Z Mz.out (by rw [e4_size]; kernel_rfl) (HZ.out.trans (e4_size _).symm) (row_one _ _ _) ?_)
      go_roundw
      case measure => simp [intOf]; omega
      case rel => exact ⟨k + 1, m, by omega, by go_num, Hm'.out, Hmr2.out, Q0.out, Q1.out, HB2.out⟩
    · obtain rfl : k = n := by omega
      obtain ⟨Z, hZ, mz⟩ := M1.out
      have HBB := Lib.hid (below_setRow hB (w.heap.size + 1) (e4 A) (by omega))
      have Mz := Lib.hid mz; clear mz
      have HZ := Lib.hid hZ; clear hZ
      go_wp2_with (first | (refine wpList_load_row rfl 36 _ rfl (w.heap.size) rfl 36 (e4 A) (0, 0) _ M0.out Try.underlying36 rfl (by rw [e4_size]; kernel_rfl) ?_) | (refine wpList_store_row rfl 36 _ _ rfl (w.heap.size + 1) _ rfl rfl 36 Z Mz.out (by rw [e4_size]; kernel_rfl) (HZ.out.trans (e4_size _).symm) (row_one _ _ _) ?_))
      exact bodyPost_ret (v := .agg (e4 A)) (results_cell_row (t := 36) (by rfl) _ _ (w.heap.size + 1) _ _ _ rfl (Mz.out.setRow _) Try.underlying36 rfl (by rw [e4_size]; kernel_rfl)) rfl ⟨A, HA.out, Hm.out, rfl, HBB.out⟩

theorem pwm_mul (a e A B : Nat) (hA : A % PP = pwm a e) (hB : B % PP = a % PP) : A * B % PP = pwm a (e + 1) := by
  unfold pwm at *
  rw [Nat.mul_mod, hA, hB, ← Nat.mul_mod, Nat.pow_succ]

set_option maxRecDepth 100000 in
set_option maxHeartbeats 1000000 in
theorem grow_any (a n : Nat) (ha : a < 115792089237316195423570985008687907853269984665640564039457584007913129639936) (hn : n ≤ 1000) (w : World) :
    Calls Try.prog 110 #[.agg (e4 a), .int .i64 n] w (ElP (pwm a (2 ^ n + 1)) w) := by
  have hs := fun w => squares_any a n ha hn w
  have ht := fun x h w => times_any x a h ha w
  have Hs := Lib.hid hs; clear hs
  have Ht := Lib.hid ht; clear ht
  clear ha hn
  go_enter Try.func110, Try.ntmps110
  go_wp2_with fail
  refine wp_region_noPanic ?_
  refine wp_region_below 5 (by kernel_rfl) ?_
  intro W0 hW0
  have M0 := Lib.hid (show Has W0 w.heap.size (e4 a) 36 by rw [hW0]; exact (Has.new _ _ _).alloc _)
  have M1 := Lib.hid (show HasN W0 (w.heap.size + 1) 4 36 by rw [hW0]; exact HasN.new1 _ _ _ _ 4 rfl)
  have HB := Lib.hid (show Below w.heap.size w W0 by rw [hW0]; exact below_2 _ _ _)
  clear hW0
  refine wpBut_take (i := 0) rfl (by kernel_rfl) (by kernel_rfl) (by kernel_rfl) (by kernel_rfl) (by kernel_rfl) (fun _ _ _ h => h) (yieldsIf_load_row (by rfl) 36 _ rfl (w.heap.size) rfl 36 (e4 a) (fun _ h => M0.out.below h M0.out.lt) Try.underlying36 rfl (by rw [e4_size]; kernel_rfl)) ((Below.refl _ _).drew) ?_
  (try simp only [Act.put]); (try simp only [List.setIfInBounds_toArray])
  refine wpBut_take (i := 1) (v := ?vv1) rfl (by kernel_rfl) (by kernel_rfl) (by kernel_rfl) (by kernel_rfl) (by kernel_rfl) (fun _ _ _ h => h) (Or.inl ⟨by rfl, ?hy1⟩) ((Below.refl _ _).drew) ?rest1
  case hy1 => (intro _ _; go_simp; try with_reducible rfl)
  (try simp only [Act.put]); (try simp only [List.setIfInBounds_toArray])
  refine wpBut_take (i := 3) rfl (by kernel_rfl) (by kernel_rfl) (by kernel_rfl) (by kernel_rfl) (by kernel_rfl) (fun _ _ _ h => h) (yieldsIf_load_row (by rfl) 36 _ rfl (w.heap.size) rfl 36 (e4 a) (fun _ h => M0.out.below h M0.out.lt) Try.underlying36 rfl (by rw [e4_size]; kernel_rfl)) ((Below.refl _ _).drew) ?_
  (try simp only [Act.put]); (try simp only [List.setIfInBounds_toArray])
  refine wpBut_one (i := 2) (by kernel_rfl) rfl (fun K hK => ?_)
  go_simp
  go_at_call 83
  refine (Hs.out _).mono ?_
  rintro e wW01 ⟨m1, hm1, hm1r, rfl, hb⟩
  have hkW01 := held_next (Below.refl _ _).drew hb
  refine hK.out _ _ (fun _ => hkW01) ?_
  clear hK K hb
  refine wpBut_one (i := 4) (by kernel_rfl) rfl (fun K hK => ?_)
  go_simp
  go_at_call 31
  refine (Ht.out m1 hm1 _).mono ?_
  rintro e wW02 ⟨m2, hm2, hm2r, rfl, hb⟩
  have hkW02 := held_next hkW01 hb
  refine hK.out _ _ (fun _ => hkW02) ?_
  clear hK K hb
  obtain ⟨Z, hZ, mZ⟩ := M1.out.below hkW02 M1.out.lt
  have MZ := Lib.hid mZ; clear mZ
  have HZ := Lib.hid hZ; clear hZ
  refine wpBut_one (i := 5) (by kernel_rfl) rfl (fun K hK => ?_)
  rw [if_pos (by rfl)]
  refine wp_store_row 36 _ _ rfl (w.heap.size + 1) _ rfl rfl 36 Z MZ.out (by rw [e4_size]; kernel_rfl) (HZ.out.trans (e4_size _).symm) (row_one _ _ _) ?_
  refine hK.out _ _ (fun h => (h rfl).elim) ?_
  clear hK K
  (try simp only [Act.put]); (try simp only [List.setIfInBounds_toArray])
  refine wpBut_done (by kernel_rfl) (NoPanic.normal ?_)
  have hfin := hm2r.trans (pwm_mul a _ m1 a hm1r rfl)
  have HBB := Lib.hid (below_setRow (held_next HB.out hkW02) (w.heap.size + 1) (e4 m2) (by omega))
  have Hfin := Lib.hid hfin; clear hfin
  go_wp2_with fail
  exact bodyPost_ret (v := .agg (e4 m2)) (results_cell_row (t := 36) (by rfl) _ _ (w.heap.size + 1) _ _ _ rfl (MZ.out.setRow _) Try.underlying36 rfl (by rw [e4_size]; kernel_rfl)) rfl ⟨m2, hm2, Hfin.out, rfl, HBB.out⟩
end Go.Proofs.Ytjiagjonlcadiaa
end
section
namespace Go.Proofs.Ytjiagjonlcadiaa

theorem pwm_add (a e f : Nat) : pwm a (e + f) = pwm a e * pwm a f % PP := by
  unfold pwm; rw [Nat.pow_add, Nat.mul_mod]
theorem pwm_succ (a e : Nat) : pwm a (e + 1) = pwm a e * a % PP := by
  unfold pwm; rw [Nat.pow_succ, Nat.mod_mul_mod]
theorem pwm_pwm (a e f : Nat) : pwm (pwm a e) f = pwm a (e * f) := by
  unfold pwm; rw [← Nat.pow_mod, Nat.pow_mul]
theorem pwm_mod (a e : Nat) : pwm (a % PP) e = pwm a e := by
  unfold pwm; rw [← Nat.pow_mod]
theorem pwm_mulbase (a b e : Nat) : pwm (a * b) e = pwm a e * pwm b e % PP := by
  unfold pwm; rw [Nat.mul_pow, Nat.mul_mod]
theorem pwm_one (a : Nat) : pwm a 1 = a % PP := by unfold pwm; rw [Nat.pow_one]
theorem gen_PP : Nm.Gen PP 2 := Nm.gen_P
theorem pr_PP : Nm.Pr PP := Nm.pr_P
theorem little (a : Nat) (ha : a % PP ≠ 0) : pwm a (PP - 1) = 1 := gen_PP.little a ha
theorem over_undoes (u v : Nat) (hv : v % PP ≠ 0) : u * pwm v (PP - 2) % PP * v % PP = u % PP := by
  have h : pwm v (PP - 2) * v % PP = 1 := by
    rw [← pwm_succ]
    have e : PP - 2 + 1 = PP - 1 := by have := PP_val; omega
    rw [e]; exact little v hv
  rw [Nat.mod_mul_mod, Nat.mul_assoc, ← Nat.mul_mod_mod, h, Nat.mul_one]
theorem no_zero (a b : Nat) (h : a * b % PP = 0) : a % PP = 0 ∨ b % PP = 0 := by
  rcases pr_PP.2 a b (Nat.dvd_of_mod_eq_zero h) with h | h
  · exact .inl (Nat.mod_eq_zero_of_dvd h)
  · exact .inr (Nat.mod_eq_zero_of_dvd h)
/-- equal squares: equal, or one and the other's opposite -/
theorem sq_eq (x y : Nat) (hx : x < PP) (hy : y < PP) (h : x * x % PP = y * y % PP) : x = y ∨ (x + y) % PP = 0 := by
  by_cases hxy : x ≤ y
  · obtain ⟨d, rfl⟩ : ∃ d, y = x + d := ⟨y - x, by omega⟩
    have e : (x + d) * (x + d) = x * x + d * (x + (x + d)) := by grind
    rw [e] at h
    have h2 : d * (x + (x + d)) % PP = 0 := by
      have h1 := Nat.div_add_mod (x * x) PP
      have h3 := Nat.div_add_mod (x * x + d * (x + (x + d))) PP
      rw [← h] at h3
      have : PP * ((x * x + d * (x + (x + d))) / PP) = PP * (x * x / PP) + d * (x + (x + d)) := by omega
      have hd : PP ∣ d * (x + (x + d)) := by
        refine (Nat.dvd_add_right (Nat.dvd_mul_right PP (x * x / PP))).1 ?_
        rw [← this]; exact Nat.dvd_mul_right _ _
      exact Nat.mod_eq_zero_of_dvd hd
    rcases no_zero _ _ h2 with h4 | h4
    · rw [Nat.mod_eq_of_lt (by omega)] at h4; left; omega
    · exact .inr h4
  · obtain ⟨d, rfl⟩ : ∃ d, x = y + d := ⟨x - y, by omega⟩
    have e : (y + d) * (y + d) = y * y + d * (y + (y + d)) := by grind
    rw [e] at h
    have h2 : d * (y + (y + d)) % PP = 0 := by
      have h1 := Nat.div_add_mod (y * y) PP
      have h3 := Nat.div_add_mod (y * y + d * (y + (y + d))) PP
      rw [h] at h3
      have : PP * ((y * y + d * (y + (y + d))) / PP) = PP * (y * y / PP) + d * (y + (y + d)) := by omega
      have hd : PP ∣ d * (y + (y + d)) := by
        refine (Nat.dvd_add_right (Nat.dvd_mul_right PP (y * y / PP))).1 ?_
        rw [← this]; exact Nat.dvd_mul_right _ _
      exact Nat.mod_eq_zero_of_dvd hd
    rcases no_zero _ _ h2 with h4 | h4
    · rw [Nat.mod_eq_of_lt (by omega)] at h4; left; omega
    · right; rw [Nat.add_comm]; exact h4
theorem mo_add_l (x x' y : Nat) (h : x % PP = x' % PP) : (x + y) % PP = (x' + y) % PP := by rw [Nat.add_mod, h, ← Nat.add_mod]
theorem mo_mul_l (x x' y : Nat) (h : x % PP = x' % PP) : (x * y) % PP = (x' * y) % PP := by rw [Nat.mul_mod, h, ← Nat.mul_mod]
end Go.Proofs.Ytjiagjonlcadiaa
end
section
namespace Go
variable {P : Program} {md : Region.Mode} {ops : Array Oper} {Q : Exit → Act → World → Prop} {f : Nat} {S : World → Prop}

abbrev tt : Bool := true
abbrev ff : Bool := false
/-- function g has a body, and is entered by a call -/
def Enters (P : Program) (g : FuncId) : Prop := ∃ fn : Func, P.funcs[g]? = some fn ∧ (fn.name == "runtime.NumGoroutine") = false ∧ fn.body.isNone = false

theorem run_call_enter {a : Act} {o : Oper} {c : Call} {x : Operand} {g : FuncId} {vl : List Value} (ho : o.op = .call c) (hc : c.callee = .value x) (hx : a.eval x = .func (.func g) #[] #[]) (he : Enters P g)
    (hv : c.args.toList.map a.eval = vl) (w : World) : (execOp a.eval o).run P w = .ok (.enter g vl.toArray) w := by
  obtain ⟨fn, h1, h2, h3⟩ := he
  have h4 : fn.name ≠ "runtime.NumGoroutine" := by simpa using h2
  have h5 : c.args.map a.eval = vl.toArray := by apply Array.ext'; rw [← hv]; simp
  unfold execOp
  simp only [ho, resolve, hc, hx, h5]
  cases hb : fn.body with
  | none => rw [hb] at h3; cases h3
  | some code => simp [Deferred.ofValue, invoke, callFunc, h1, h4, hb]

theorem wp_call_to {a : Act} {o : Oper} {c : Call} {x : Operand} {g : FuncId} {vl : List Value} {w : World} {K : Act → World → Prop} {R : Ending → World → Prop} (ho : o.op = .call c) (hc : c.callee = .value x) (hx : a.eval x = .func (.func g) #[] #[]) (he : Enters P g)
    (hv : c.args.toList.map a.eval = vl) (h : Calls P g vl.toArray w R) (hR : ∀ e w', R e w' → ∃ v, e = .returned v ∧ K (a.put o.dst v) w') : o.wp P a w K Q := by
  unfold Oper.wp
  rw [run_call_enter ho hc hx he hv w, Oper.upon_enter]
  refine h.mono fun e w' hr => ?_
  obtain ⟨v, rfl, hK⟩ := hR e w' hr
  exact hK

/-- operation i, and what comes behind it -/
def BStep (P : Program) (md : Region.Mode) (ops : Array Oper) (Q : Exit → Act → World → Prop) (f : Nat) (S : World → Prop) (n : Nat) (listed : Array Bool) (a : Act) (w : World) (i : Nat) : Prop :=
  wpOp P ops Q i (fun a' w' => (i ≠ f → S w') ∧ wpBut P md ops Q f S n (listed.setIfInBounds i true) a' w') a w
variable {n : Nat} {listed : Array Bool} {a : Act} {w : World}
theorem wpBut_r1 {i : Nat} (hr : Region.ready md ops listed = [i]) (h : BStep P md ops Q f S n listed a w i) : wpBut P md ops Q f S (n + 1) listed a w := by
  refine ⟨fun h0 => (by rw [h0] at hr; cases hr), fun j hj => ?_⟩
  rw [hr] at hj
  obtain rfl : j = i := by simpa using hj
  exact h
theorem wpBut_r2 {i j : Nat} (hr : Region.ready md ops listed = [i, j]) (h1 : BStep P md ops Q f S n listed a w i) (h2 : BStep P md ops Q f S n listed a w j) : wpBut P md ops Q f S (n + 1) listed a w := by
  refine ⟨fun h0 => (by rw [h0] at hr; cases hr), fun k hk => ?_⟩
  rw [hr] at hk
  simp only [List.mem_cons, List.not_mem_nil, or_false] at hk
  rcases hk with rfl | rfl
  · exact h1
  · exact h2
theorem wpBut_r3 {i j l : Nat} (hr : Region.ready md ops listed = [i, j, l]) (h1 : BStep P md ops Q f S n listed a w i) (h2 : BStep P md ops Q f S n listed a w j) (h3 : BStep P md ops Q f S n listed a w l) : wpBut P md ops Q f S (n + 1) listed a w := by
  refine ⟨fun h0 => (by rw [h0] at hr; cases hr), fun k hk => ?_⟩
  rw [hr] at hk
  simp only [List.mem_cons, List.not_mem_nil, or_false] at hk
  rcases hk with rfl | rfl | rfl
  · exact h1
  · exact h2
  · exact h3
theorem wpBut_r4 {i j l m : Nat} (hr : Region.ready md ops listed = [i, j, l, m]) (h1 : BStep P md ops Q f S n listed a w i) (h2 : BStep P md ops Q f S n listed a w j) (h3 : BStep P md ops Q f S n listed a w l) (h4 : BStep P md ops Q f S n listed a w m) : wpBut P md ops Q f S (n + 1) listed a w := by
  refine ⟨fun h0 => (by rw [h0] at hr; cases hr), fun k hk => ?_⟩
  rw [hr] at hk
  simp only [List.mem_cons, List.not_mem_nil, or_false] at hk
  rcases hk with rfl | rfl | rfl | rfl
  · exact h1
  · exact h2
  · exact h3
  · exact h4
theorem bstep_wp {i : Nat} {oi : Oper} (hi : ops[i]? = some oi) (hw : Region.wanted oi (yielded ops a.tmps) = true)
    (h : Oper.wp P oi a w (fun a' w' => (i ≠ f → S w') ∧ wpBut P md ops Q f S n (listed.setIfInBounds i true) a' w') Q) : BStep P md ops Q f S n listed a w i :=
  wpOp_step hi fun K hK => by rw [if_pos hw]; exact Oper.wp_mono hK h
theorem bstep_call {i : Nat} {oi : Oper} {c : Call} {x : Operand} {g : FuncId} {vl : List Value} {R : Ending → World → Prop} (hi : ops[i]? = some oi) (hw : Region.wanted oi (yielded ops a.tmps) = true) (ho : oi.op = .call c) (hc : c.callee = .value x)
    (hx : a.eval x = .func (.func g) #[] #[]) (he : Enters P g) (hv : c.args.toList.map a.eval = vl) (h : Calls P g vl.toArray w R)
    (hR : ∀ e w', R e w' → ∃ v, e = .returned v ∧ (i ≠ f → S w') ∧ wpBut P md ops Q f S n (listed.setIfInBounds i true) (a.put oi.dst v) w') : BStep P md ops Q f S n listed a w i :=
  bstep_wp hi hw (wp_call_to ho hc hx he hv h hR)
theorem bstep_store {i : Nat} {oi : Oper} (hi : ops[i]? = some oi) (hw : Region.wanted oi (yielded ops a.tmps) = true) (ty : TypeId) (x y : Operand) (ho : oi.op = .store ty x y)
    (g : Nat) (cells : Array Value) (hx : a.eval x = .pointer (some ⟨g, 0, none⟩)) (hy : a.eval y = .agg cells)
    (t : TypeId) (old : Array Value) (hg : w.heap[g]? = some (.cells old t (0, 0))) (hs : (P.info? ty).map (·.size) = some cells.size)
    (hold : old.size = cells.size) (h1 : cells.all (·.oneCell') = true)
    (h : (i ≠ f → S (w.setRow g cells)) ∧ wpBut P md ops Q f S n (listed.setIfInBounds i true) (a.put oi.dst undef) (w.setRow g cells)) : BStep P md ops Q f S n listed a w i :=
  bstep_wp hi hw (wp_store_row ty x y ho g cells hx hy t old hg hs hold h1 h)

/-- a region that draws, begun: the condition: nothing that was there when it began has turned -/
theorem wp_region_go {id : Nat} (f N : Nat) (l0 : Array Bool) (hm : P.follows .mixedOrders = true) (hN : ops.size = N) (hl : Array.replicate N false = l0)
    (h : ∀ W0 : World, W0 = w → wpBut P .any ops Q f (fun w' => Go.RowKit.Below W0.heap.size W0 w') N l0 a W0.drew) : (Code.region id ops true).wp P Q a w :=
  wp_region_but f _ hm (by subst hl; subst hN; exact h w rfl)
theorem wp_region_goS {id : Nat} (S : World → Prop) (f N : Nat) (l0 : Array Bool) (hm : P.follows .mixedOrders = true) (hN : ops.size = N) (hl : Array.replicate N false = l0)
    (h : wpBut P .any ops Q f S N l0 a w.drew) : (Code.region id ops true).wp P Q a w :=
  wp_region_but f S hm (by subst hl; subst hN; exact h)
theorem put_some {oi : Oper} {d : Tmp} (hd : oi.dst = some d) (a : Act) (v : Value) : a.put oi.dst v = { a with tmps := a.tmps.setIfInBounds d v } := by rw [hd]; rfl
theorem put_none {oi : Oper} (hd : oi.dst = none) (a : Act) (v : Value) : a.put oi.dst v = a := by rw [hd]; rfl
theorem go_take (i : Nat) (d : Tmp) (l' : Array Bool) {oi : Oper} {v : Value} (hi : ops[i]? = some oi) (hd : oi.dst = some d) (hl : listed.setIfInBounds i true = l') (hs : Region.noSelect ops = true) (hfr : Region.free md ops listed i = true)
    (hr : (Region.ready md ops listed).contains i = true) (hif : (i == f) = false) (hf : waitsFor md ops f i = true) (hy : YieldsIf P ops S oi v a) (hS : S w)
    (h : wpBut P md ops (NoPanic Q) f S n l' { a with tmps := a.tmps.setIfInBounds d v } w) : wpBut P md ops (NoPanic Q) f S (n + 1) listed a w :=
  wpBut_take hi hs hfr hr hif hf (fun _ _ _ h => h) hy hS (by rw [put_some hd, hl]; exact h)
/-- may number i be taken first -/
def takeOk (md : Region.Mode) (ops : Array Oper) (listed : Array Bool) (f i : Nat) : Bool := Region.noSelect ops && Region.free md ops listed i && (Region.ready md ops listed).contains i && !(i == f) && waitsFor md ops f i
theorem go_take2 {P : Program} {md : Region.Mode} {ops : Array Oper} {Q : Exit → Act → World → Prop} {f : Nat} {S : World → Prop} {n : Nat} {listed : Array Bool} {a : Act} {w : World} (i : Nat) (d : Tmp) (l' : Array Bool) {oi : Oper} {v : Value} (hi : ops[i]? = some oi) (hd : oi.dst = some d) (hl : listed.setIfInBounds i true = l') (hok : takeOk md ops listed f i = true) (hy : YieldsIf P ops S oi v a) (hS : S w)
    (h : wpBut P md ops (NoPanic Q) f S n l' { a with tmps := a.tmps.setIfInBounds d v } w) : wpBut P md ops (NoPanic Q) f S (n + 1) listed a w := by
  unfold takeOk at hok
  simp only [Bool.and_eq_true, Bool.not_eq_true'] at hok
  obtain ⟨⟨⟨⟨h1, h2⟩, h3⟩, h4⟩, h5⟩ := hok
  exact go_take i d l' hi hd hl h1 h2 h3 h4 h5 hy hS h
theorem sI {α : Type} (l : List α) (i : Nat) (a : α) : l.toArray.setIfInBounds i a = (l.set i a).toArray := List.setIfInBounds_toArray l i a
theorem sS {α : Type} (x : α) (l : List α) (i : Nat) (a : α) : (x :: l).set (i + 1) a = x :: l.set i a := List.set_cons_succ
theorem sZ {α : Type} (x : α) (l : List α) (a : α) : (x :: l).set 0 a = a :: l := List.set_cons_zero
theorem below_dr (w : World) : Go.RowKit.Below w.heap.size w w.drew := (Go.RowKit.Below.refl _ _).drew
theorem go_call (i : Nat) (d : Tmp) (l' : Array Bool) {oi : Oper} {c : Call} {x : Operand} {g : FuncId} {vl : List Value} {R : Ending → World → Prop} (hi : ops[i]? = some oi) (hd : oi.dst = some d) (hl : listed.setIfInBounds i true = l') (hw : Region.wanted oi (yielded ops a.tmps) = true) (ho : oi.op = .call c) (hc : c.callee = .value x)
    (hx : a.eval x = .func (.func g) #[] #[]) (he : Enters P g) (hv : c.args.toList.map a.eval = vl) (h : Calls P g vl.toArray w R)
    (hR : ∀ e w', R e w' → ∃ v, e = .returned v ∧ (i ≠ f → S w') ∧ wpBut P md ops Q f S n l' { a with tmps := a.tmps.setIfInBounds d v } w') : BStep P md ops Q f S n listed a w i :=
  bstep_call hi hw ho hc hx he hv h fun e w' hr => let ⟨v, h1, h2, h3⟩ := hR e w' hr; ⟨v, h1, h2, by rw [put_some hd, hl]; exact h3⟩
theorem go_store (i : Nat) (l' : Array Bool) {oi : Oper} (hi : ops[i]? = some oi) (hd : oi.dst = none) (hl : listed.setIfInBounds i true = l') (hw : Region.wanted oi (yielded ops a.tmps) = true) (ty : TypeId) (x y : Operand) (ho : oi.op = .store ty x y)
    (g : Nat) (cells : Array Value) (hx : a.eval x = .pointer (some ⟨g, 0, none⟩)) (hy : a.eval y = .agg cells)
    (t : TypeId) (old : Array Value) (hg : w.heap[g]? = some (.cells old t (0, 0))) (hs : (P.info? ty).map (·.size) = some cells.size)
    (hold : old.size = cells.size) (h1 : cells.all (·.oneCell') = true)
    (h : (i ≠ f → S (w.setRow g cells)) ∧ wpBut P md ops Q f S n l' a (w.setRow g cells)) : BStep P md ops Q f S n listed a w i :=
  bstep_store hi hw ty x y ho g cells hx hy t old hg hs hold h1 ⟨h.1, by rw [put_none hd, hl]; exact h.2⟩
theorem go_alloc (i : Nat) (d : Tmp) (l' : Array Bool) {oi : Oper} (hi : ops[i]? = some oi) (hd : oi.dst = some d) (hl : listed.setIfInBounds i true = l') (hw : Region.wanted oi (yielded ops a.tmps) = true) (ty : TypeId) (ho : oi.op = .alloc ty) (Z : Array Value)
    (hz : ∀ w : World, (Instr.alloc ty true (.tuple #[])).run P w = .ok (.pointer (some ⟨w.heap.size, 0, none⟩)) (w.alloc (.cells Z ty)))
    (h : ∀ w2, w2 = w.alloc (.cells Z ty) → (i ≠ f → S w2) ∧ wpBut P md ops Q f S n l' { a with tmps := a.tmps.setIfInBounds d (.pointer (some ⟨w.heap.size, 0, none⟩)) } w2) : BStep P md ops Q f S n listed a w i := by
  refine bstep_wp hi hw ?_
  unfold Oper.wp execOp
  simp only [ho, Sem.run_bind, Sem.run_pure, hz, Result.andThen_ok]
  have := h _ rfl
  rw [← put_some hd, ← hl] at this
  exact this
theorem go_store2 (i : Nat) (l' : Array Bool) {oi : Oper} (hi : ops[i]? = some oi) (hd : oi.dst = none) (hl : listed.setIfInBounds i true = l') (hw : Region.wanted oi (yielded ops a.tmps) = true) (ty : TypeId) (x y : Operand) (ho : oi.op = .store ty x y)
    (g : Nat) (cells : Array Value) (hx : a.eval x = .pointer (some ⟨g, 0, none⟩)) (hy : a.eval y = .agg cells)
    (t : TypeId) (old : Array Value) (hg : w.heap[g]? = some (.cells old t (0, 0))) (hs : (P.info? ty).map (·.size) = some cells.size)
    (hold : old.size = cells.size) (h1 : cells.all (·.oneCell') = true)
    (h : ∀ w2, w2 = w.setRow g cells → (i ≠ f → S w2) ∧ wpBut P md ops Q f S n l' a w2) : BStep P md ops Q f S n listed a w i :=
  go_store i l' hi hd hl hw ty x y ho g cells hx hy t old hg hs hold h1 (h _ rfl)
/-- a short name for what is left of a region -/
theorem but_name {n0 : Nat} {l0 : Array Bool} {a0 : Act} {w0 : World} (h : ∀ T : Nat → Array Bool → Act → World → Prop, (∀ n l a w, T n l a w ↔ wpBut P md ops Q f S n l a w) → T n0 l0 a0 w0) : wpBut P md ops Q f S n0 l0 a0 w0 :=
  h (fun n l a w => wpBut P md ops Q f S n l a w) (fun _ _ _ _ => Iff.rfl)
/-- the ways through a region meet again: what is known of the blocks that it made and of the numbers that its calls gave -/
theorem wp_region_meet {α : Type} {P : Program} {ops : Array Oper} {Q : Exit → Act → World → Prop} {id : Nat} {b : Bool} {a : Act} {w : World} (C : World → α → World → Prop) (F : Act → α → Act)
    (h : ∀ Q' : Exit → Act → World → Prop, (∀ x w', C w x w' → Q' .normal (F a x) w') → (Code.region id ops b).wp P Q' a w) (hQ : ∀ W0 x w', W0 = w → C W0 x w' → Q .normal (F a x) w') : (Code.region id ops b).wp P Q a w :=
  h Q fun x w' hC => hQ w x w' rfl hC

theorem wpList_load {rest : List Oper} {o : Oper} (hw : Region.wanted o (yielded ops a.tmps) = true) (ty : TypeId) (x : Operand) (ho : o.op = .load ty x) (g : Nat) (hx : a.eval x = .pointer (some ⟨g, 0, none⟩)) (t : TypeId) (cs : Array Value)
    {d : TypeDesc} (hg : w.heap[g]? = some (.cells cs t (0, 0))) (hu : P.underlying ty = some d) (hd : (match d with | .struct _ | .array _ _ => true | _ => false) = true) (hi : (P.info? ty).map (·.size) = some cs.size)
    (e : Tmp) (he : o.dst = some e) (h : wpList P ops Q rest { a with tmps := a.tmps.setIfInBounds e (.agg cs) } w) : wpList P ops Q (o :: rest) a w := by
  have hy := yieldsIf_load_row (ops := ops) (S := fun w' => w' = w) hw ty x ho g hx t cs (fun w' h' => by rw [h']; exact hg) hu hd hi
  rcases hy with ⟨_, h1⟩ | ⟨h1, _⟩
  · refine wpList_step fun K hK => ?_
    rw [if_pos hw]
    unfold Oper.wp
    rw [h1 w rfl, Oper.upon_value]
    refine hK _ _ ?_
    rw [put_some he]; exact h
  · rw [hw] at h1; cases h1
theorem wpList_call {rest : List Oper} {o : Oper} {c : Call} {x : Operand} {g : FuncId} {vl : List Value} {R : Ending → World → Prop} (hw : Region.wanted o (yielded ops a.tmps) = true) (ho : o.op = .call c) (hc : c.callee = .value x)
    (hx : a.eval x = .func (.func g) #[] #[]) (he : Enters P g) (hv : c.args.toList.map a.eval = vl) (h : Calls P g vl.toArray w R)
    (d : Tmp) (hd : o.dst = some d) (hR : ∀ e w', R e w' → ∃ v, e = .returned v ∧ wpList P ops Q rest { a with tmps := a.tmps.setIfInBounds d v } w') : wpList P ops Q (o :: rest) a w :=
  wpList_step fun K hK => by
    rw [if_pos hw]
    exact Oper.wp_mono hK (wp_call_to ho hc hx he hv h fun e w' hr => let ⟨v, h1, h2⟩ := hR e w' hr; ⟨v, h1, by rw [put_some hd]; exact h2⟩)
end Go
namespace Go.Proofs.Ytjiagjonlcadiaa
def z36 : Array Value := (#[.int .u64 0, .int .u64 0, .int .u64 0, .int .u64 0] : Array Value)
theorem al36 (w : World) : (Instr.alloc 36 true (.tuple #[])).run Try.prog w = .ok (.pointer (some ⟨w.heap.size, 0, none⟩)) (w.alloc (.cells z36 36)) := by
  unfold z36
  go_simp
def z40 : Array Value := (#[.int .i64 0, .int .i64 0, .int .i64 0, .int .i64 0, .int .i64 0, .int .i64 0, .int .i64 0, .int .i64 0, .int .i64 0, .int .i64 0, .int .i64 0, .int .i64 0, .int .i64 0, .int .i64 0, .int .i64 0, .int .i64 0, .int .i64 0, .int .i64 0, .int .i64 0, .int .i64 0, .int .i64 0, .int .i64 0] : Array Value)
theorem al40 (w : World) : (Instr.alloc 40 true (.tuple #[])).run Try.prog w = .ok (.pointer (some ⟨w.heap.size, 0, none⟩)) (w.alloc (.cells z40 40)) := by
  unfold z40
  go_simp
def z24 : Array Value := (#[.int .u8 0, .int .u8 0, .int .u8 0, .int .u8 0, .int .u8 0, .int .u8 0, .int .u8 0, .int .u8 0, .int .u8 0, .int .u8 0, .int .u8 0, .int .u8 0, .int .u8 0, .int .u8 0, .int .u8 0, .int .u8 0, .int .u8 0, .int .u8 0, .int .u8 0, .int .u8 0, .int .u8 0, .int .u8 0, .int .u8 0, .int .u8 0, .int .u8 0, .int .u8 0, .int .u8 0, .int .u8 0, .int .u8 0, .int .u8 0, .int .u8 0, .int .u8 0] : Array Value)
theorem al24 (w : World) : (Instr.alloc 24 true (.tuple #[])).run Try.prog w = .ok (.pointer (some ⟨w.heap.size, 0, none⟩)) (w.alloc (.cells z24 24)) := by
  unfold z24
  go_simp
end Go.Proofs.Ytjiagjonlcadiaa
end
section
namespace Go.Proofs.Ytjiagjonlcadiaa
open Go.RowKit Go.Lib

theorem pw_go (a x k e m f : Nat) (hx : x % PP = pwm a k) (hm : m % PP = pwm x e) (hf : k * e = f) : m % PP = pwm a f := by
  rw [hm, ← pwm_mod, hx, pwm_pwm, hf]
theorem pw_by (a x y k e m f : Nat) (hx : x % PP = pwm a k) (hy : y % PP = pwm a e) (hm : m % PP = x * y % PP) (hf : k + e = f) : m % PP = pwm a f := by
  rw [hm, Nat.mul_mod, hx, hy, ← pwm_add, hf]
theorem pw_self (a : Nat) : a % PP = pwm a 1 := (pwm_one a).symm

theorem p_five (a m1 m2 m3 m4 : Nat) (h1 : m1 % PP = pwm a 3) (h2 : m2 % PP = pwm m1 5) (h3 : m3 % PP = pwm m2 2) (h4 : m4 % PP = m3 * a % PP) : m4 % PP = pwm a 31 :=
  pw_by a m3 a 30 1 m4 31 (pw_go a m2 15 2 m3 30 (pw_go a m1 3 5 m2 15 h1 h2 rfl) h3 rfl) (pw_self a) h4 rfl
theorem p_fifty (a m6 m7 m8 m5 m9 : Nat) (h6 : m6 % PP = pwm a 1048575) (h5 : m5 % PP = pwm a 1023) (h7 : m7 % PP = pwm m6 1048577) (h8 : m8 % PP = pwm m7 1024) (h9 : m9 % PP = m8 * m5 % PP) : m9 % PP = pwm a 1125899906842623 :=
  pw_by a m8 m5 1125899906841600 1023 m9 _ (pw_go a m7 1099511627775 1024 m8 _ (pw_go a m6 1048575 1048577 m7 _ h6 h7 (by decide +kernel)) h8 (by decide +kernel)) h5 h9 (by decide +kernel)
theorem p_all (a m10 m11 m12 m9 m13 : Nat) (h10 : m10 % PP = pwm a 1267650600228229401496703205375) (h9 : m9 % PP = pwm a 1125899906842623) (h11 : m11 % PP = pwm m10 1267650600228229401496703205377) (h12 : m12 % PP = pwm m11 1125899906842624) (h13 : m13 % PP = m12 * m9 % PP) : m13 % PP = pwm a 1809251394333065553493296640760748560207343510400633813116524750123642650623 :=
  pw_by a m12 m9 1809251394333065553493296640760748560207343510400633813116523624223735808000 1125899906842623 m13 _ (pw_go a m11 1606938044258990275541962092341162602522202993782792835301375 1125899906842624 m12 _ (pw_go a m10 1267650600228229401496703205375 1267650600228229401496703205377 m11 _ h10 h11 (by decide +kernel)) h12 (by decide +kernel)) h9 h13 (by decide +kernel)

theorem grow_1 (x : Nat) (hx : x < 115792089237316195423570985008687907853269984665640564039457584007913129639936) (w : World) : Calls Try.prog 110 #[.agg (e4 x), .int .i64 1] w (ElP (pwm x 3) w) := by
  have h := grow_any x 1 hx (by decide) w
  rw [show 2 ^ 1 + 1 = 3 by decide +kernel] at h
  exact h
theorem grow_2 (x : Nat) (hx : x < 115792089237316195423570985008687907853269984665640564039457584007913129639936) (w : World) : Calls Try.prog 110 #[.agg (e4 x), .int .i64 2] w (ElP (pwm x 5) w) := by
  have h := grow_any x 2 hx (by decide) w
  rw [show 2 ^ 2 + 1 = 5 by decide +kernel] at h
  exact h
theorem grow_5 (x : Nat) (hx : x < 115792089237316195423570985008687907853269984665640564039457584007913129639936) (w : World) : Calls Try.prog 110 #[.agg (e4 x), .int .i64 5] w (ElP (pwm x 33) w) := by
  have h := grow_any x 5 hx (by decide) w
  rw [show 2 ^ 5 + 1 = 33 by decide +kernel] at h
  exact h
theorem grow_10 (x : Nat) (hx : x < 115792089237316195423570985008687907853269984665640564039457584007913129639936) (w : World) : Calls Try.prog 110 #[.agg (e4 x), .int .i64 10] w (ElP (pwm x 1025) w) := by
  have h := grow_any x 10 hx (by decide) w
  rw [show 2 ^ 10 + 1 = 1025 by decide +kernel] at h
  exact h
theorem grow_20 (x : Nat) (hx : x < 115792089237316195423570985008687907853269984665640564039457584007913129639936) (w : World) : Calls Try.prog 110 #[.agg (e4 x), .int .i64 20] w (ElP (pwm x 1048577) w) := by
  have h := grow_any x 20 hx (by decide) w
  rw [show 2 ^ 20 + 1 = 1048577 by decide +kernel] at h
  exact h
theorem grow_50 (x : Nat) (hx : x < 115792089237316195423570985008687907853269984665640564039457584007913129639936) (w : World) : Calls Try.prog 110 #[.agg (e4 x), .int .i64 50] w (ElP (pwm x 1125899906842625) w) := by
  have h := grow_any x 50 hx (by decide) w
  rw [show 2 ^ 50 + 1 = 1125899906842625 by decide +kernel] at h
  exact h
theorem grow_100 (x : Nat) (hx : x < 115792089237316195423570985008687907853269984665640564039457584007913129639936) (w : World) : Calls Try.prog 110 #[.agg (e4 x), .int .i64 100] w (ElP (pwm x 1267650600228229401496703205377) w) := by
  have h := grow_any x 100 hx (by decide) w
  rw [show 2 ^ 100 + 1 = 1267650600228229401496703205377 by decide +kernel] at h
  exact h
theorem squares_1 (x : Nat) (hx : x < 115792089237316195423570985008687907853269984665640564039457584007913129639936) (w : World) : Calls Try.prog 83 #[.agg (e4 x), .int .i64 1] w (ElP (pwm x 2) w) := by
  have h := squares_any x 1 hx (by decide) w
  rw [show 2 ^ 1 = 2 by decide +kernel] at h
  exact h
theorem squares_2 (x : Nat) (hx : x < 115792089237316195423570985008687907853269984665640564039457584007913129639936) (w : World) : Calls Try.prog 83 #[.agg (e4 x), .int .i64 2] w (ElP (pwm x 4) w) := by
  have h := squares_any x 2 hx (by decide) w
  rw [show 2 ^ 2 = 4 by decide +kernel] at h
  exact h
theorem squares_3 (x : Nat) (hx : x < 115792089237316195423570985008687907853269984665640564039457584007913129639936) (w : World) : Calls Try.prog 83 #[.agg (e4 x), .int .i64 3] w (ElP (pwm x 8) w) := by
  have h := squares_any x 3 hx (by decide) w
  rw [show 2 ^ 3 = 8 by decide +kernel] at h
  exact h
theorem squares_5 (x : Nat) (hx : x < 115792089237316195423570985008687907853269984665640564039457584007913129639936) (w : World) : Calls Try.prog 83 #[.agg (e4 x), .int .i64 5] w (ElP (pwm x 32) w) := by
  have h := squares_any x 5 hx (by decide) w
  rw [show 2 ^ 5 = 32 by decide +kernel] at h
  exact h
theorem squares_10 (x : Nat) (hx : x < 115792089237316195423570985008687907853269984665640564039457584007913129639936) (w : World) : Calls Try.prog 83 #[.agg (e4 x), .int .i64 10] w (ElP (pwm x 1024) w) := by
  have h := squares_any x 10 hx (by decide) w
  rw [show 2 ^ 10 = 1024 by decide +kernel] at h
  exact h
theorem squares_50 (x : Nat) (hx : x < 115792089237316195423570985008687907853269984665640564039457584007913129639936) (w : World) : Calls Try.prog 83 #[.agg (e4 x), .int .i64 50] w (ElP (pwm x 1125899906842624) w) := by
  have h := squares_any x 50 hx (by decide) w
  rw [show 2 ^ 50 = 1125899906842624 by decide +kernel] at h
  exact h
theorem ent30 : Enters Try.prog 30 := ⟨_, Try.func30, by kernel_rfl, by kernel_rfl⟩
theorem ent31 : Enters Try.prog 31 := ⟨_, Try.func31, by kernel_rfl, by kernel_rfl⟩
theorem ent33 : Enters Try.prog 33 := ⟨_, Try.func33, by kernel_rfl, by kernel_rfl⟩
theorem ent34 : Enters Try.prog 34 := ⟨_, Try.func34, by kernel_rfl, by kernel_rfl⟩
theorem ent36 : Enters Try.prog 36 := ⟨_, Try.func36, by kernel_rfl, by kernel_rfl⟩
theorem ent37 : Enters Try.prog 37 := ⟨_, Try.func37, by kernel_rfl, by kernel_rfl⟩
theorem ent38 : Enters Try.prog 38 := ⟨_, Try.func38, by kernel_rfl, by kernel_rfl⟩
theorem ent39 : Enters Try.prog 39 := ⟨_, Try.func39, by kernel_rfl, by kernel_rfl⟩
theorem ent40 : Enters Try.prog 40 := ⟨_, Try.func40, by kernel_rfl, by kernel_rfl⟩
theorem ent41 : Enters Try.prog 41 := ⟨_, Try.func41, by kernel_rfl, by kernel_rfl⟩
theorem ent42 : Enters Try.prog 42 := ⟨_, Try.func42, by kernel_rfl, by kernel_rfl⟩
theorem ent43 : Enters Try.prog 43 := ⟨_, Try.func43, by kernel_rfl, by kernel_rfl⟩
theorem ent44 : Enters Try.prog 44 := ⟨_, Try.func44, by kernel_rfl, by kernel_rfl⟩
theorem ent45 : Enters Try.prog 45 := ⟨_, Try.func45, by kernel_rfl, by kernel_rfl⟩
theorem ent73 : Enters Try.prog 73 := ⟨_, Try.func73, by kernel_rfl, by kernel_rfl⟩
theorem ent74 : Enters Try.prog 74 := ⟨_, Try.func74, by kernel_rfl, by kernel_rfl⟩
theorem ent83 : Enters Try.prog 83 := ⟨_, Try.func83, by kernel_rfl, by kernel_rfl⟩
theorem ent84 : Enters Try.prog 84 := ⟨_, Try.func84, by kernel_rfl, by kernel_rfl⟩
theorem ent110 : Enters Try.prog 110 := ⟨_, Try.func110, by kernel_rfl, by kernel_rfl⟩
end Go.Proofs.Ytjiagjonlcadiaa
end
section
namespace Go.Proofs.Ytjiagjonlcadiaa
open Go.RowKit Go.Lib

set_option maxRecDepth 100000 in
set_option linter.unusedSimpArgs false in
set_option maxHeartbeats 8000000 in
theorem power_any (a : Nat) (ha : a < 115792089237316195423570985008687907853269984665640564039457584007913129639936) (w : World) :
    Calls Try.prog 84 #[.agg (e4 a)] w (ElP (pwm a 1809251394333065553493296640760748560207343510400633813116524750123642650623) w) := by
  have hg1 := fun w => grow_1 a ha w
  have hg2 := grow_2
  have hg5 := grow_5
  have hg10 := grow_10
  have hg20 := grow_20
  have hg50 := grow_50
  have hg100 := grow_100
  have hs1 := squares_1
  have hs10 := squares_10
  have hs50 := squares_50
  have ht := fun x y hx hy w => times_any x y hx hy w
  have hp5 := p_five a
  have hp50 := p_fifty a
  have hpa := p_all a
  have hgo := pw_go a
  have Hg1 := Lib.hid hg1; clear hg1
  have Hg2 := Lib.hid hg2; clear hg2
  have Hs1 := Lib.hid hs1; clear hs1
  have Ht := Lib.hid ht; clear ht
  have Ha := Lib.hid ha; clear ha
  have Hp5 := Lib.hid hp5; clear hp5
  have Hg5 := Lib.hid hg5; clear hg5
  have Hg10 := Lib.hid hg10; clear hg10
  have Hg20 := Lib.hid hg20; clear hg20
  have Hg50 := Lib.hid hg50; clear hg50
  have Hg100 := Lib.hid hg100; clear hg100
  have Hs10 := Lib.hid hs10; clear hs10
  have Hs50 := Lib.hid hs50; clear hs50
  have Hp50 := Lib.hid hp50; clear hp50
  have Hpa := Lib.hid hpa; clear hpa
  have Hgo := Lib.hid hgo; clear hgo
  go_enter Try.func84, Try.ntmps84
  go_wp2_with fail
  refine wp_region_meet (α := Nat × Nat × Nat × Nat × Nat) (fun W0 x w' => x.2.2.2.2 < 115792089237316195423570985008687907853269984665640564039457584007913129639936 ∧ x.2.2.2.2 % PP = pwm a 31 ∧ W0.heap.size ≤ x.1 ∧ Has w' x.1 (e4 x.2.2.2.2) 36 ∧ Below W0.heap.size W0 w') (fun ac x => ((((((((ac.put (some 9) (.func (.func 110) #[] #[])).put (some 10) (.func (.func 110) #[] #[])).put (some 11) (.agg (e4 a))).put (some 12) (.agg (e4 x.2.1))).put (some 13) (.agg (e4 x.2.2.1))).put (some 14) (.agg (e4 x.2.2.2.1))).put (some 15) (.agg (e4 a))).put (some 16) (.agg (e4 x.2.2.2.2))).put (some 4) (.pointer (some ⟨x.1, 0, none⟩))) ?_ ?_
  · intro Q' hQ'
    refine wp_region_noPanic ?_
    refine wp_region_go 99 10 #[ff,ff,ff,ff,ff,ff,ff,ff,ff,ff] (by kernel_rfl) rfl rfl ?_
    intro W0 hW0
    have N0 := Lib.hid (show Has W0 w.heap.size (e4 a) 36 by rw [hW0]; exact (Has.new _ _ _).alloc _)
    rw [← hW0] at hQ'
    simp only [Act.put, List.setIfInBounds_toArray, List.set_cons_succ, List.set_cons_zero] at hQ'
    have HQ := Lib.hid hQ'; clear hQ' hW0
    refine go_take2 0 9 #[tt,ff,ff,ff,ff,ff,ff,ff,ff,ff] (v := ?uv1) rfl rfl rfl (by kernel_rfl) (Or.inl ⟨by rfl, ?uy1⟩) ((below_dr W0)) ?urest1
    case uy1 => (intro _ _; go_simp; try with_reducible rfl)
    (try simp only [sI, sS, sZ])
    refine go_take2 1 10 #[tt,tt,ff,ff,ff,ff,ff,ff,ff,ff] (v := ?uv2) rfl rfl rfl (by kernel_rfl) (Or.inl ⟨by rfl, ?uy2⟩) ((below_dr W0)) ?urest2
    case uy2 => (intro _ _; go_simp; try with_reducible rfl)
    (try simp only [sI, sS, sZ])
    refine go_take2 2 11 #[tt,tt,tt,ff,ff,ff,ff,ff,ff,ff] rfl rfl rfl (by kernel_rfl) (yieldsIf_load_row (by rfl) 36 _ rfl (w.heap.size) rfl 36 (e4 a) (fun _ h => N0.out.below h N0.out.lt) Try.underlying36 rfl (by rw [e4_size]; kernel_rfl)) ((below_dr W0)) ?_
    (try simp only [sI, sS, sZ])
    refine go_take2 6 15 #[tt,tt,tt,ff,ff,ff,tt,ff,ff,ff] rfl rfl rfl (by kernel_rfl) (yieldsIf_load_row (by rfl) 36 _ rfl (w.heap.size) rfl 36 (e4 a) (fun _ h => N0.out.below h N0.out.lt) Try.underlying36 rfl (by rw [e4_size]; kernel_rfl)) ((below_dr W0)) ?_
    (try simp only [sI, sS, sZ])
    refine wpBut_r2 (i := 3) (j := 8) (by kernel_rfl) ?_ ?_
    refine go_call 3 12 #[tt,tt,tt,tt,ff,ff,tt,ff,ff,ff] rfl rfl rfl (by rfl) rfl rfl (by rfl) ent110 (by rfl) (Hg1.out _) ?_
    rintro e wW01 ⟨m1, hm1, hm1r, rfl, hb⟩
    have hkW01 := held_next (below_dr W0) hb
    refine ⟨_, rfl, fun _ => hkW01, ?_⟩
    clear hb
    (try simp only [sI, sS, sZ])
    refine wpBut_r2 (i := 4) (j := 8) (by kernel_rfl) ?_ ?_
    refine go_call 4 13 #[tt,tt,tt,tt,tt,ff,tt,ff,ff,ff] rfl rfl rfl (by rfl) rfl rfl (by rfl) ent110 (by rfl) (Hg2.out m1 hm1 _) ?_
    rintro e wW02 ⟨m2, hm2, hm2r, rfl, hb⟩
    have hkW02 := held_next hkW01 hb
    refine ⟨_, rfl, fun _ => hkW02, ?_⟩
    clear hb
    (try simp only [sI, sS, sZ])
    refine wpBut_r2 (i := 5) (j := 8) (by kernel_rfl) ?_ ?_
    refine go_call 5 14 #[tt,tt,tt,tt,tt,tt,tt,ff,ff,ff] rfl rfl rfl (by rfl) rfl rfl (by rfl) ent83 (by rfl) (Hs1.out m2 hm2 _) ?_
    rintro e wW03 ⟨m3, hm3, hm3r, rfl, hb⟩
    have hkW03 := held_next hkW02 hb
    refine ⟨_, rfl, fun _ => hkW03, ?_⟩
    clear hb
    (try simp only [sI, sS, sZ])
    refine wpBut_r2 (i := 7) (j := 8) (by kernel_rfl) ?_ ?_
    refine go_call 7 16 #[tt,tt,tt,tt,tt,tt,tt,tt,ff,ff] rfl rfl rfl (by rfl) rfl rfl (by rfl) ent31 (by rfl) (Ht.out m3 a hm3 Ha.out _) ?_
    rintro e wW04 ⟨m4, hm4, hm4r, rfl, hb⟩
    have hkW04 := held_next hkW03 hb
    refine ⟨_, rfl, fun _ => hkW04, ?_⟩
    clear hb
    (try simp only [sI, sS, sZ])
    refine wpBut_r1 (i := 8) (by kernel_rfl) ?_
    refine go_alloc 8 4 #[tt,tt,tt,tt,tt,tt,tt,tt,tt,ff] rfl rfl rfl (by rfl) 36 rfl _ al36 ?_
    intro wW05 hw2
    have hkW05 := (hkW04).alloc (hkW04).size (.cells z36 36)
    rw [← hw2] at hkW05
    have MA8 := Lib.hid (HasN.new (wW04) z36 36 4 (by kernel_rfl))
    rw [← hw2] at MA8
    have HA8 := Lib.hid (show W0.heap.size ≤ _ from (hkW04).size)
    clear hw2
    refine ⟨fun _ => hkW05, ?_⟩
    (try simp only [sI, sS, sZ])
    refine wpBut_r1 (i := 9) (by kernel_rfl) ?_
    obtain ⟨Zq, hZ, mZ⟩ := MA8.out
    refine go_store2 9 #[tt,tt,tt,tt,tt,tt,tt,tt,tt,tt] rfl rfl rfl (by rfl) 36 _ _ rfl _ _ rfl rfl 36 Zq mZ (by rw [e4_size]; kernel_rfl) (hZ.trans (e4_size ..).symm) (row_one _ _ _) ?_
    intro wW06 hw2
    have hkW06 := below_setRow (hkW05) _ (e4 m4) HA8.out
    rw [← hw2] at hkW06
    clear MA8
    have MA8 := Lib.hid (mZ.setRow (e4 m4))
    rw [← hw2] at MA8; clear mZ hZ hw2
    refine ⟨fun _ => hkW06, ?_⟩
    (try simp only [sI, sS, sZ])
    exact wpBut_done (by kernel_rfl) (NoPanic.normal (HQ.out (_, m1, m2, m3, m4) _ ⟨hm4, Hp5.out m1 m2 m3 m4 hm1r hm2r hm3r hm4r, HA8.out, MA8.out, (hkW06)⟩))
    refine go_alloc 8 4 #[tt,tt,tt,tt,tt,tt,tt,ff,tt,ff] rfl rfl rfl (by rfl) 36 rfl _ al36 ?_
    intro wW04 hw2
    have hkW04 := (hkW03).alloc (hkW03).size (.cells z36 36)
    rw [← hw2] at hkW04
    have MA8 := Lib.hid (HasN.new (wW03) z36 36 4 (by kernel_rfl))
    rw [← hw2] at MA8
    have HA8 := Lib.hid (show W0.heap.size ≤ _ from (hkW03).size)
    clear hw2
    refine ⟨fun _ => hkW04, ?_⟩
    (try simp only [sI, sS, sZ])
    refine wpBut_r1 (i := 7) (by kernel_rfl) ?_
    refine go_call 7 16 #[tt,tt,tt,tt,tt,tt,tt,tt,tt,ff] rfl rfl rfl (by rfl) rfl rfl (by rfl) ent31 (by rfl) (Ht.out m3 a hm3 Ha.out _) ?_
    rintro e wW05 ⟨m4, hm4, hm4r, rfl, hb⟩
    have hkW05 := held_next hkW04 hb
    replace MA8 := Lib.hid (MA8.out.call hb)
    refine ⟨_, rfl, fun _ => hkW05, ?_⟩
    clear hb
    (try simp only [sI, sS, sZ])
    refine wpBut_r1 (i := 9) (by kernel_rfl) ?_
    obtain ⟨Zq, hZ, mZ⟩ := MA8.out
    refine go_store2 9 #[tt,tt,tt,tt,tt,tt,tt,tt,tt,tt] rfl rfl rfl (by rfl) 36 _ _ rfl _ _ rfl rfl 36 Zq mZ (by rw [e4_size]; kernel_rfl) (hZ.trans (e4_size ..).symm) (row_one _ _ _) ?_
    intro wW06 hw2
    have hkW06 := below_setRow (hkW05) _ (e4 m4) HA8.out
    rw [← hw2] at hkW06
    clear MA8
    have MA8 := Lib.hid (mZ.setRow (e4 m4))
    rw [← hw2] at MA8; clear mZ hZ hw2
    refine ⟨fun _ => hkW06, ?_⟩
    (try simp only [sI, sS, sZ])
    exact wpBut_done (by kernel_rfl) (NoPanic.normal (HQ.out (_, m1, m2, m3, m4) _ ⟨hm4, Hp5.out m1 m2 m3 m4 hm1r hm2r hm3r hm4r, HA8.out, MA8.out, (hkW06)⟩))
    refine go_alloc 8 4 #[tt,tt,tt,tt,tt,ff,tt,ff,tt,ff] rfl rfl rfl (by rfl) 36 rfl _ al36 ?_
    intro wW03 hw2
    have hkW03 := (hkW02).alloc (hkW02).size (.cells z36 36)
    rw [← hw2] at hkW03
    have MA8 := Lib.hid (HasN.new (wW02) z36 36 4 (by kernel_rfl))
    rw [← hw2] at MA8
    have HA8 := Lib.hid (show W0.heap.size ≤ _ from (hkW02).size)
    clear hw2
    refine ⟨fun _ => hkW03, ?_⟩
    (try simp only [sI, sS, sZ])
    refine wpBut_r1 (i := 5) (by kernel_rfl) ?_
    refine go_call 5 14 #[tt,tt,tt,tt,tt,tt,tt,ff,tt,ff] rfl rfl rfl (by rfl) rfl rfl (by rfl) ent83 (by rfl) (Hs1.out m2 hm2 _) ?_
    rintro e wW04 ⟨m3, hm3, hm3r, rfl, hb⟩
    have hkW04 := held_next hkW03 hb
    replace MA8 := Lib.hid (MA8.out.call hb)
    refine ⟨_, rfl, fun _ => hkW04, ?_⟩
    clear hb
    (try simp only [sI, sS, sZ])
    refine wpBut_r1 (i := 7) (by kernel_rfl) ?_
    refine go_call 7 16 #[tt,tt,tt,tt,tt,tt,tt,tt,tt,ff] rfl rfl rfl (by rfl) rfl rfl (by rfl) ent31 (by rfl) (Ht.out m3 a hm3 Ha.out _) ?_
    rintro e wW05 ⟨m4, hm4, hm4r, rfl, hb⟩
    have hkW05 := held_next hkW04 hb
    replace MA8 := Lib.hid (MA8.out.call hb)
    refine ⟨_, rfl, fun _ => hkW05, ?_⟩
    clear hb
    (try simp only [sI, sS, sZ])
    refine wpBut_r1 (i := 9) (by kernel_rfl) ?_
    obtain ⟨Zq, hZ, mZ⟩ := MA8.out
    refine go_store2 9 #[tt,tt,tt,tt,tt,tt,tt,tt,tt,tt] rfl rfl rfl (by rfl) 36 _ _ rfl _ _ rfl rfl 36 Zq mZ (by rw [e4_size]; kernel_rfl) (hZ.trans (e4_size ..).symm) (row_one _ _ _) ?_
    intro wW06 hw2
    have hkW06 := below_setRow (hkW05) _ (e4 m4) HA8.out
    rw [← hw2] at hkW06
    clear MA8
    have MA8 := Lib.hid (mZ.setRow (e4 m4))
    rw [← hw2] at MA8; clear mZ hZ hw2
    refine ⟨fun _ => hkW06, ?_⟩
    (try simp only [sI, sS, sZ])
    exact wpBut_done (by kernel_rfl) (NoPanic.normal (HQ.out (_, m1, m2, m3, m4) _ ⟨hm4, Hp5.out m1 m2 m3 m4 hm1r hm2r hm3r hm4r, HA8.out, MA8.out, (hkW06)⟩))
    refine go_alloc 8 4 #[tt,tt,tt,tt,ff,ff,tt,ff,tt,ff] rfl rfl rfl (by rfl) 36 rfl _ al36 ?_
    intro wW02 hw2
    have hkW02 := (hkW01).alloc (hkW01).size (.cells z36 36)
    rw [← hw2] at hkW02
    have MA8 := Lib.hid (HasN.new (wW01) z36 36 4 (by kernel_rfl))
    rw [← hw2] at MA8
    have HA8 := Lib.hid (show W0.heap.size ≤ _ from (hkW01).size)
    clear hw2
    refine ⟨fun _ => hkW02, ?_⟩
    (try simp only [sI, sS, sZ])
    refine wpBut_r1 (i := 4) (by kernel_rfl) ?_
    refine go_call 4 13 #[tt,tt,tt,tt,tt,ff,tt,ff,tt,ff] rfl rfl rfl (by rfl) rfl rfl (by rfl) ent110 (by rfl) (Hg2.out m1 hm1 _) ?_
    rintro e wW03 ⟨m2, hm2, hm2r, rfl, hb⟩
    have hkW03 := held_next hkW02 hb
    replace MA8 := Lib.hid (MA8.out.call hb)
    refine ⟨_, rfl, fun _ => hkW03, ?_⟩
    clear hb
    (try simp only [sI, sS, sZ])
    refine wpBut_r1 (i := 5) (by kernel_rfl) ?_
    refine go_call 5 14 #[tt,tt,tt,tt,tt,tt,tt,ff,tt,ff] rfl rfl rfl (by rfl) rfl rfl (by rfl) ent83 (by rfl) (Hs1.out m2 hm2 _) ?_
    rintro e wW04 ⟨m3, hm3, hm3r, rfl, hb⟩
    have hkW04 := held_next hkW03 hb
    replace MA8 := Lib.hid (MA8.out.call hb)
    refine ⟨_, rfl, fun _ => hkW04, ?_⟩
    clear hb
    (try simp only [sI, sS, sZ])
    refine wpBut_r1 (i := 7) (by kernel_rfl) ?_
    refine go_call 7 16 #[tt,tt,tt,tt,tt,tt,tt,tt,tt,ff] rfl rfl rfl (by rfl) rfl rfl (by rfl) ent31 (by rfl) (Ht.out m3 a hm3 Ha.out _) ?_
    rintro e wW05 ⟨m4, hm4, hm4r, rfl, hb⟩
    have hkW05 := held_next hkW04 hb
    replace MA8 := Lib.hid (MA8.out.call hb)
    refine ⟨_, rfl, fun _ => hkW05, ?_⟩
    clear hb
    (try simp only [sI, sS, sZ])
    refine wpBut_r1 (i := 9) (by kernel_rfl) ?_
    obtain ⟨Zq, hZ, mZ⟩ := MA8.out
    refine go_store2 9 #[tt,tt,tt,tt,tt,tt,tt,tt,tt,tt] rfl rfl rfl (by rfl) 36 _ _ rfl _ _ rfl rfl 36 Zq mZ (by rw [e4_size]; kernel_rfl) (hZ.trans (e4_size ..).symm) (row_one _ _ _) ?_
    intro wW06 hw2
    have hkW06 := below_setRow (hkW05) _ (e4 m4) HA8.out
    rw [← hw2] at hkW06
    clear MA8
    have MA8 := Lib.hid (mZ.setRow (e4 m4))
    rw [← hw2] at MA8; clear mZ hZ hw2
    refine ⟨fun _ => hkW06, ?_⟩
    (try simp only [sI, sS, sZ])
    exact wpBut_done (by kernel_rfl) (NoPanic.normal (HQ.out (_, m1, m2, m3, m4) _ ⟨hm4, Hp5.out m1 m2 m3 m4 hm1r hm2r hm3r hm4r, HA8.out, MA8.out, (hkW06)⟩))
    refine go_alloc 8 4 #[tt,tt,tt,ff,ff,ff,tt,ff,tt,ff] rfl rfl rfl (by rfl) 36 rfl _ al36 ?_
    intro wW01 hw2
    have hkW01 := ((below_dr W0)).alloc ((below_dr W0)).size (.cells z36 36)
    rw [← hw2] at hkW01
    have MA8 := Lib.hid (HasN.new (W0.drew) z36 36 4 (by kernel_rfl))
    rw [← hw2] at MA8
    have HA8 := Lib.hid (show W0.heap.size ≤ _ from ((below_dr W0)).size)
    clear hw2
    refine ⟨fun _ => hkW01, ?_⟩
    (try simp only [sI, sS, sZ])
    refine wpBut_r1 (i := 3) (by kernel_rfl) ?_
    refine go_call 3 12 #[tt,tt,tt,tt,ff,ff,tt,ff,tt,ff] rfl rfl rfl (by rfl) rfl rfl (by rfl) ent110 (by rfl) (Hg1.out _) ?_
    rintro e wW02 ⟨m1, hm1, hm1r, rfl, hb⟩
    have hkW02 := held_next hkW01 hb
    replace MA8 := Lib.hid (MA8.out.call hb)
    refine ⟨_, rfl, fun _ => hkW02, ?_⟩
    clear hb
    (try simp only [sI, sS, sZ])
    refine wpBut_r1 (i := 4) (by kernel_rfl) ?_
    refine go_call 4 13 #[tt,tt,tt,tt,tt,ff,tt,ff,tt,ff] rfl rfl rfl (by rfl) rfl rfl (by rfl) ent110 (by rfl) (Hg2.out m1 hm1 _) ?_
    rintro e wW03 ⟨m2, hm2, hm2r, rfl, hb⟩
    have hkW03 := held_next hkW02 hb
    replace MA8 := Lib.hid (MA8.out.call hb)
    refine ⟨_, rfl, fun _ => hkW03, ?_⟩
    clear hb
    (try simp only [sI, sS, sZ])
    refine wpBut_r1 (i := 5) (by kernel_rfl) ?_
    refine go_call 5 14 #[tt,tt,tt,tt,tt,tt,tt,ff,tt,ff] rfl rfl rfl (by rfl) rfl rfl (by rfl) ent83 (by rfl) (Hs1.out m2 hm2 _) ?_
    rintro e wW04 ⟨m3, hm3, hm3r, rfl, hb⟩
    have hkW04 := held_next hkW03 hb
    replace MA8 := Lib.hid (MA8.out.call hb)
    refine ⟨_, rfl, fun _ => hkW04, ?_⟩
    clear hb
    (try simp only [sI, sS, sZ])
    refine wpBut_r1 (i := 7) (by kernel_rfl) ?_
    refine go_call 7 16 #[tt,tt,tt,tt,tt,tt,tt,tt,tt,ff] rfl rfl rfl (by rfl) rfl rfl (by rfl) ent31 (by rfl) (Ht.out m3 a hm3 Ha.out _) ?_
    rintro e wW05 ⟨m4, hm4, hm4r, rfl, hb⟩
    have hkW05 := held_next hkW04 hb
    replace MA8 := Lib.hid (MA8.out.call hb)
    refine ⟨_, rfl, fun _ => hkW05, ?_⟩
    clear hb
    (try simp only [sI, sS, sZ])
    refine wpBut_r1 (i := 9) (by kernel_rfl) ?_
    obtain ⟨Zq, hZ, mZ⟩ := MA8.out
    refine go_store2 9 #[tt,tt,tt,tt,tt,tt,tt,tt,tt,tt] rfl rfl rfl (by rfl) 36 _ _ rfl _ _ rfl rfl 36 Zq mZ (by rw [e4_size]; kernel_rfl) (hZ.trans (e4_size ..).symm) (row_one _ _ _) ?_
    intro wW06 hw2
    have hkW06 := below_setRow (hkW05) _ (e4 m4) HA8.out
    rw [← hw2] at hkW06
    clear MA8
    have MA8 := Lib.hid (mZ.setRow (e4 m4))
    rw [← hw2] at MA8; clear mZ hZ hw2
    refine ⟨fun _ => hkW06, ?_⟩
    (try simp only [sI, sS, sZ])
    exact wpBut_done (by kernel_rfl) (NoPanic.normal (HQ.out (_, m1, m2, m3, m4) _ ⟨hm4, Hp5.out m1 m2 m3 m4 hm1r hm2r hm3r hm4r, HA8.out, MA8.out, (hkW06)⟩))
  · rintro W0 ⟨B4, m1, m2, m3, m4⟩ w4 hW0 ⟨hm4, hm4r, hB4, m4', hbw⟩
    simp only [Act.put, List.setIfInBounds_toArray, List.set_cons_succ, List.set_cons_zero] at hm4 hm4r hB4 m4' ⊢
    have hne4 : w.heap.size + 1 < B4 := by rw [hW0] at hB4; simp at hB4; omega
    have M1 := Lib.hid ((show HasN W0 (w.heap.size + 1) 4 36 by rw [hW0]; exact HasN.new1 _ _ _ _ 4 rfl).call hbw)
    have HB := Lib.hid (held_next (show Below w.heap.size w W0 by rw [hW0]; exact below_2 _ _ _) hbw)
    have M4' := Lib.hid m4'; clear m4'
    have Hm4r := Lib.hid hm4r; clear hm4r
    clear hW0 hbw hB4 W0
    have hl1 := M1.out.lt
    have hl4 := M4'.out.lt
    go_step
    go_step
    go_step
    go_step
    (refine wpList_step (fun K hK => ?_); go_simp; (try go_bits); refine hK _ _ ?_; clear hK K)
    refine wpList_load (by rfl) 36 _ rfl (B4) rfl 36 (e4 m4) M4'.out Try.underlying36 rfl (by rw [e4_size]; kernel_rfl) 18 rfl ?_
    (try simp only [Act.put, sI, sS, sZ])
    refine wpList_call (by rfl) rfl rfl (by rfl) ent110 (by rfl) (Hg5.out m4 hm4 _) 19 rfl ?_
    rintro e uw1 ⟨m5, hm5, hm5r, rfl, hb⟩
    replace M1 := Lib.hid (M1.out.call hb)
    replace M4' := Lib.hid (M4'.out.call hb)
    replace HB := Lib.hid (held_next HB.out hb)
    refine ⟨_, rfl, ?_⟩
    clear hb
    (try simp only [Act.put, sI, sS, sZ])
    refine wpList_step (fun K hK => ?_)
    go_simp
    have hlt1 := M1.out.lt
    have hlt2 := M4'.out.lt
    replace M1 := Lib.hid (M1.out.alloc (.cells (#[.int .u64 0, .int .u64 0, .int .u64 0, .int .u64 0] : Array Value) 36))
    replace M4' := Lib.hid (M4'.out.alloc (.cells (#[.int .u64 0, .int .u64 0, .int .u64 0, .int .u64 0] : Array Value) 36))
    have M5 := Lib.hid (HasN.new uw1 (#[.int .u64 0, .int .u64 0, .int .u64 0, .int .u64 0] : Array Value) 36 4 rfl)
    have hsz := HB.out.size
    replace HB := Lib.hid (HB.out.alloc hsz (.cells (#[.int .u64 0, .int .u64 0, .int .u64 0, .int .u64 0] : Array Value) 36))
    refine hK _ _ ?_
    clear hK K
    first | (obtain ⟨Zq, hZ, mZ⟩ := M5.out) | (obtain ⟨Zq, hZ, mZ⟩ := M5.out.toN (e4_size _))
    clear M5
    have hZ' := Lib.hid hZ; clear hZ
    have mZ' := Lib.hid mZ; clear mZ
    refine wpList_store_row rfl 36 _ _ rfl (uw1.heap.size) _ rfl rfl 36 Zq mZ'.out (by rw [e4_size]; kernel_rfl) (hZ'.out.trans (e4_size _).symm) (row_one _ _ _) ?_
    (try simp only [Act.put, sI, sS, sZ])
    replace M1 := Lib.hid (M1.out.setRow_other (uw1.heap.size) (e4 m5) (by omega))
    replace M4' := Lib.hid (M4'.out.setRow_other (uw1.heap.size) (e4 m5) (by omega))
    have M5 := Lib.hid (mZ'.out.setRow (e4 m5))
    clear mZ' hZ'
    replace HB := Lib.hid (below_setRow HB.out (uw1.heap.size) (e4 m5) (by omega))
    refine wpList_nil ?_
    have hk5 := Hgo.out m4 31 33 m5 1023 Hm4r.out hm5r rfl
    have Hk5 := Lib.hid hk5; clear hk5
    clear hm5r
    clear M4'
    go_step
    go_step
    go_step
    go_step
    (refine wpList_step (fun K hK => ?_); go_simp; (try go_bits); refine hK _ _ ?_; clear hK K)
    refine wpList_load (by rfl) 36 _ rfl (uw1.heap.size) rfl 36 (e4 m5) M5.out Try.underlying36 rfl (by rw [e4_size]; kernel_rfl) 21 rfl ?_
    (try simp only [Act.put, sI, sS, sZ])
    refine wpList_call (by rfl) rfl rfl (by rfl) ent110 (by rfl) (Hg10.out m5 hm5 _) 22 rfl ?_
    rintro e uw2 ⟨m6, hm6, hm6r, rfl, hb⟩
    replace M1 := Lib.hid (M1.out.call hb)
    replace M5 := Lib.hid (M5.out.call hb)
    replace HB := Lib.hid (held_next HB.out hb)
    refine ⟨_, rfl, ?_⟩
    clear hb
    (try simp only [Act.put, sI, sS, sZ])
    refine wpList_step (fun K hK => ?_)
    go_simp
    have hlt3 := M1.out.lt
    have hlt4 := M5.out.lt
    replace M1 := Lib.hid (M1.out.alloc (.cells (#[.int .u64 0, .int .u64 0, .int .u64 0, .int .u64 0] : Array Value) 36))
    replace M5 := Lib.hid (M5.out.alloc (.cells (#[.int .u64 0, .int .u64 0, .int .u64 0, .int .u64 0] : Array Value) 36))
    have M6 := Lib.hid (HasN.new uw2 (#[.int .u64 0, .int .u64 0, .int .u64 0, .int .u64 0] : Array Value) 36 4 rfl)
    have hsz := HB.out.size
    replace HB := Lib.hid (HB.out.alloc hsz (.cells (#[.int .u64 0, .int .u64 0, .int .u64 0, .int .u64 0] : Array Value) 36))
    refine hK _ _ ?_
    clear hK K
    first | (obtain ⟨Zq, hZ, mZ⟩ := M6.out) | (obtain ⟨Zq, hZ, mZ⟩ := M6.out.toN (e4_size _))
    clear M6
    have hZ' := Lib.hid hZ; clear hZ
    have mZ' := Lib.hid mZ; clear mZ
    refine wpList_store_row rfl 36 _ _ rfl (uw2.heap.size) _ rfl rfl 36 Zq mZ'.out (by rw [e4_size]; kernel_rfl) (hZ'.out.trans (e4_size _).symm) (row_one _ _ _) ?_
    (try simp only [Act.put, sI, sS, sZ])
    replace M1 := Lib.hid (M1.out.setRow_other (uw2.heap.size) (e4 m6) (by omega))
    replace M5 := Lib.hid (M5.out.setRow_other (uw2.heap.size) (e4 m6) (by omega))
    have M6 := Lib.hid (mZ'.out.setRow (e4 m6))
    clear mZ' hZ'
    replace HB := Lib.hid (below_setRow HB.out (uw2.heap.size) (e4 m6) (by omega))
    refine wpList_nil ?_
    have hk6 := Hgo.out m5 1023 1025 m6 1048575 Hk5.out hm6r (by decide +kernel)
    have Hk6 := Lib.hid hk6; clear hk6
    clear hm6r
    go_step
    go_step
    go_step
    refine wp_region_meet (α := Nat × Nat × Nat × Nat) (fun W0 x w' => x.2.2.2 < 115792089237316195423570985008687907853269984665640564039457584007913129639936 ∧ x.2.2.2 % PP = pwm a 1125899906842623 ∧ W0.heap.size ≤ x.1 ∧ Has w' x.1 (e4 x.2.2.2) 36 ∧ Below W0.heap.size W0 w') (fun ac x => (((((((ac.put (some 23) (.func (.func 110) #[] #[])).put (some 24) (.agg (e4 m6))).put (some 25) (.agg (e4 x.2.1))).put (some 26) (.agg (e4 x.2.2.1))).put (some 27) (.agg (e4 m5))).put (some 28) (.agg (e4 x.2.2.2))).put (some 7) (.pointer (some ⟨x.1, 0, none⟩)))) ?_ ?_
    · intro Q' hQ'
      refine wp_region_noPanic ?_
      refine wp_region_go 99 8 #[ff,ff,ff,ff,ff,ff,ff,ff] (by kernel_rfl) rfl rfl ?_
      intro W5 hW5
      rw [← hW5] at hQ'
      simp only [Act.put, List.setIfInBounds_toArray, List.set_cons_succ, List.set_cons_zero] at hQ'
      have HQ := Lib.hid hQ'; clear hQ'
      rw [← hW5] at M1 M5 M6 HB
      clear hW5
      refine go_take2 0 23 #[tt,ff,ff,ff,ff,ff,ff,ff] (v := ?uv3) rfl rfl rfl (by kernel_rfl) (Or.inl ⟨by rfl, ?uy3⟩) ((below_dr W5)) ?urest3
      case uy3 => (intro _ _; go_simp; try with_reducible rfl)
      (try simp only [sI, sS, sZ])
      refine go_take2 1 24 #[tt,tt,ff,ff,ff,ff,ff,ff] rfl rfl rfl (by kernel_rfl) (yieldsIf_load_row (by rfl) 36 _ rfl (uw2.heap.size) rfl 36 (e4 m6) (fun _ h => M6.out.below h M6.out.lt) Try.underlying36 rfl (by rw [e4_size]; kernel_rfl)) ((below_dr W5)) ?_
      (try simp only [sI, sS, sZ])
      refine go_take2 4 27 #[tt,tt,ff,ff,tt,ff,ff,ff] rfl rfl rfl (by kernel_rfl) (yieldsIf_load_row (by rfl) 36 _ rfl (uw1.heap.size) rfl 36 (e4 m5) (fun _ h => M5.out.below h M5.out.lt) Try.underlying36 rfl (by rw [e4_size]; kernel_rfl)) ((below_dr W5)) ?_
      (try simp only [sI, sS, sZ])
      refine wpBut_r2 (i := 2) (j := 6) (by kernel_rfl) ?_ ?_
      refine go_call 2 25 #[tt,tt,tt,ff,tt,ff,ff,ff] rfl rfl rfl (by rfl) rfl rfl (by rfl) ent110 (by rfl) (Hg20.out m6 hm6 _) ?_
      rintro e wW51 ⟨m7, hm7, hm7r, rfl, hb⟩
      have hkW51 := held_next (below_dr W5) hb
      refine ⟨_, rfl, fun _ => hkW51, ?_⟩
      clear hb
      (try simp only [sI, sS, sZ])
      refine wpBut_r2 (i := 3) (j := 6) (by kernel_rfl) ?_ ?_
      refine go_call 3 26 #[tt,tt,tt,tt,tt,ff,ff,ff] rfl rfl rfl (by rfl) rfl rfl (by rfl) ent83 (by rfl) (Hs10.out m7 hm7 _) ?_
      rintro e wW52 ⟨m8, hm8, hm8r, rfl, hb⟩
      have hkW52 := held_next hkW51 hb
      refine ⟨_, rfl, fun _ => hkW52, ?_⟩
      clear hb
      (try simp only [sI, sS, sZ])
      refine wpBut_r2 (i := 5) (j := 6) (by kernel_rfl) ?_ ?_
      refine go_call 5 28 #[tt,tt,tt,tt,tt,tt,ff,ff] rfl rfl rfl (by rfl) rfl rfl (by rfl) ent31 (by rfl) (Ht.out m8 m5 hm8 hm5 _) ?_
      rintro e wW53 ⟨m9, hm9, hm9r, rfl, hb⟩
      have hkW53 := held_next hkW52 hb
      refine ⟨_, rfl, fun _ => hkW53, ?_⟩
      clear hb
      (try simp only [sI, sS, sZ])
      refine wpBut_r1 (i := 6) (by kernel_rfl) ?_
      refine go_alloc 6 7 #[tt,tt,tt,tt,tt,tt,tt,ff] rfl rfl rfl (by rfl) 36 rfl _ al36 ?_
      intro wW54 hw2
      have hkW54 := (hkW53).alloc (hkW53).size (.cells z36 36)
      rw [← hw2] at hkW54
      have MA6 := Lib.hid (HasN.new (wW53) z36 36 4 (by kernel_rfl))
      rw [← hw2] at MA6
      have HA6 := Lib.hid (show W5.heap.size ≤ _ from (hkW53).size)
      clear hw2
      refine ⟨fun _ => hkW54, ?_⟩
      (try simp only [sI, sS, sZ])
      refine wpBut_r1 (i := 7) (by kernel_rfl) ?_
      obtain ⟨Zq, hZ, mZ⟩ := MA6.out
      refine go_store2 7 #[tt,tt,tt,tt,tt,tt,tt,tt] rfl rfl rfl (by rfl) 36 _ _ rfl _ _ rfl rfl 36 Zq mZ (by rw [e4_size]; kernel_rfl) (hZ.trans (e4_size ..).symm) (row_one _ _ _) ?_
      intro wW55 hw2
      have hkW55 := below_setRow (hkW54) _ (e4 m9) HA6.out
      rw [← hw2] at hkW55
      clear MA6
      have MA6 := Lib.hid (mZ.setRow (e4 m9))
      rw [← hw2] at MA6; clear mZ hZ hw2
      refine ⟨fun _ => hkW55, ?_⟩
      (try simp only [sI, sS, sZ])
      exact wpBut_done (by kernel_rfl) (NoPanic.normal (HQ.out (_, m7, m8, m9) _ ⟨hm9, Hp50.out m6 m7 m8 m5 m9 Hk6.out Hk5.out hm7r hm8r hm9r, HA6.out, MA6.out, (hkW55)⟩))
      refine go_alloc 6 7 #[tt,tt,tt,tt,tt,ff,tt,ff] rfl rfl rfl (by rfl) 36 rfl _ al36 ?_
      intro wW53 hw2
      have hkW53 := (hkW52).alloc (hkW52).size (.cells z36 36)
      rw [← hw2] at hkW53
      have MA6 := Lib.hid (HasN.new (wW52) z36 36 4 (by kernel_rfl))
      rw [← hw2] at MA6
      have HA6 := Lib.hid (show W5.heap.size ≤ _ from (hkW52).size)
      clear hw2
      refine ⟨fun _ => hkW53, ?_⟩
      (try simp only [sI, sS, sZ])
      refine wpBut_r1 (i := 5) (by kernel_rfl) ?_
      refine go_call 5 28 #[tt,tt,tt,tt,tt,tt,tt,ff] rfl rfl rfl (by rfl) rfl rfl (by rfl) ent31 (by rfl) (Ht.out m8 m5 hm8 hm5 _) ?_
      rintro e wW54 ⟨m9, hm9, hm9r, rfl, hb⟩
      have hkW54 := held_next hkW53 hb
      replace MA6 := Lib.hid (MA6.out.call hb)
      refine ⟨_, rfl, fun _ => hkW54, ?_⟩
      clear hb
      (try simp only [sI, sS, sZ])
      refine wpBut_r1 (i := 7) (by kernel_rfl) ?_
      obtain ⟨Zq, hZ, mZ⟩ := MA6.out
      refine go_store2 7 #[tt,tt,tt,tt,tt,tt,tt,tt] rfl rfl rfl (by rfl) 36 _ _ rfl _ _ rfl rfl 36 Zq mZ (by rw [e4_size]; kernel_rfl) (hZ.trans (e4_size ..).symm) (row_one _ _ _) ?_
      intro wW55 hw2
      have hkW55 := below_setRow (hkW54) _ (e4 m9) HA6.out
      rw [← hw2] at hkW55
      clear MA6
      have MA6 := Lib.hid (mZ.setRow (e4 m9))
      rw [← hw2] at MA6; clear mZ hZ hw2
      refine ⟨fun _ => hkW55, ?_⟩
      (try simp only [sI, sS, sZ])
      exact wpBut_done (by kernel_rfl) (NoPanic.normal (HQ.out (_, m7, m8, m9) _ ⟨hm9, Hp50.out m6 m7 m8 m5 m9 Hk6.out Hk5.out hm7r hm8r hm9r, HA6.out, MA6.out, (hkW55)⟩))
      refine go_alloc 6 7 #[tt,tt,tt,ff,tt,ff,tt,ff] rfl rfl rfl (by rfl) 36 rfl _ al36 ?_
      intro wW52 hw2
      have hkW52 := (hkW51).alloc (hkW51).size (.cells z36 36)
      rw [← hw2] at hkW52
      have MA6 := Lib.hid (HasN.new (wW51) z36 36 4 (by kernel_rfl))
      rw [← hw2] at MA6
      have HA6 := Lib.hid (show W5.heap.size ≤ _ from (hkW51).size)
      clear hw2
      refine ⟨fun _ => hkW52, ?_⟩
      (try simp only [sI, sS, sZ])
      refine wpBut_r1 (i := 3) (by kernel_rfl) ?_
      refine go_call 3 26 #[tt,tt,tt,tt,tt,ff,tt,ff] rfl rfl rfl (by rfl) rfl rfl (by rfl) ent83 (by rfl) (Hs10.out m7 hm7 _) ?_
      rintro e wW53 ⟨m8, hm8, hm8r, rfl, hb⟩
      have hkW53 := held_next hkW52 hb
      replace MA6 := Lib.hid (MA6.out.call hb)
      refine ⟨_, rfl, fun _ => hkW53, ?_⟩
      clear hb
      (try simp only [sI, sS, sZ])
      refine wpBut_r1 (i := 5) (by kernel_rfl) ?_
      refine go_call 5 28 #[tt,tt,tt,tt,tt,tt,tt,ff] rfl rfl rfl (by rfl) rfl rfl (by rfl) ent31 (by rfl) (Ht.out m8 m5 hm8 hm5 _) ?_
      rintro e wW54 ⟨m9, hm9, hm9r, rfl, hb⟩
      have hkW54 := held_next hkW53 hb
      replace MA6 := Lib.hid (MA6.out.call hb)
      refine ⟨_, rfl, fun _ => hkW54, ?_⟩
      clear hb
      (try simp only [sI, sS, sZ])
      refine wpBut_r1 (i := 7) (by kernel_rfl) ?_
      obtain ⟨Zq, hZ, mZ⟩ := MA6.out
      refine go_store2 7 #[tt,tt,tt,tt,tt,tt,tt,tt] rfl rfl rfl (by rfl) 36 _ _ rfl _ _ rfl rfl 36 Zq mZ (by rw [e4_size]; kernel_rfl) (hZ.trans (e4_size ..).symm) (row_one _ _ _) ?_
      intro wW55 hw2
      have hkW55 := below_setRow (hkW54) _ (e4 m9) HA6.out
      rw [← hw2] at hkW55
      clear MA6
      have MA6 := Lib.hid (mZ.setRow (e4 m9))
      rw [← hw2] at MA6; clear mZ hZ hw2
      refine ⟨fun _ => hkW55, ?_⟩
      (try simp only [sI, sS, sZ])
      exact wpBut_done (by kernel_rfl) (NoPanic.normal (HQ.out (_, m7, m8, m9) _ ⟨hm9, Hp50.out m6 m7 m8 m5 m9 Hk6.out Hk5.out hm7r hm8r hm9r, HA6.out, MA6.out, (hkW55)⟩))
      refine go_alloc 6 7 #[tt,tt,ff,ff,tt,ff,tt,ff] rfl rfl rfl (by rfl) 36 rfl _ al36 ?_
      intro wW51 hw2
      have hkW51 := ((below_dr W5)).alloc ((below_dr W5)).size (.cells z36 36)
      rw [← hw2] at hkW51
      have MA6 := Lib.hid (HasN.new (W5.drew) z36 36 4 (by kernel_rfl))
      rw [← hw2] at MA6
      have HA6 := Lib.hid (show W5.heap.size ≤ _ from ((below_dr W5)).size)
      clear hw2
      refine ⟨fun _ => hkW51, ?_⟩
      (try simp only [sI, sS, sZ])
      refine wpBut_r1 (i := 2) (by kernel_rfl) ?_
      refine go_call 2 25 #[tt,tt,tt,ff,tt,ff,tt,ff] rfl rfl rfl (by rfl) rfl rfl (by rfl) ent110 (by rfl) (Hg20.out m6 hm6 _) ?_
      rintro e wW52 ⟨m7, hm7, hm7r, rfl, hb⟩
      have hkW52 := held_next hkW51 hb
      replace MA6 := Lib.hid (MA6.out.call hb)
      refine ⟨_, rfl, fun _ => hkW52, ?_⟩
      clear hb
      (try simp only [sI, sS, sZ])
      refine wpBut_r1 (i := 3) (by kernel_rfl) ?_
      refine go_call 3 26 #[tt,tt,tt,tt,tt,ff,tt,ff] rfl rfl rfl (by rfl) rfl rfl (by rfl) ent83 (by rfl) (Hs10.out m7 hm7 _) ?_
      rintro e wW53 ⟨m8, hm8, hm8r, rfl, hb⟩
      have hkW53 := held_next hkW52 hb
      replace MA6 := Lib.hid (MA6.out.call hb)
      refine ⟨_, rfl, fun _ => hkW53, ?_⟩
      clear hb
      (try simp only [sI, sS, sZ])
      refine wpBut_r1 (i := 5) (by kernel_rfl) ?_
      refine go_call 5 28 #[tt,tt,tt,tt,tt,tt,tt,ff] rfl rfl rfl (by rfl) rfl rfl (by rfl) ent31 (by rfl) (Ht.out m8 m5 hm8 hm5 _) ?_
      rintro e wW54 ⟨m9, hm9, hm9r, rfl, hb⟩
      have hkW54 := held_next hkW53 hb
      replace MA6 := Lib.hid (MA6.out.call hb)
      refine ⟨_, rfl, fun _ => hkW54, ?_⟩
      clear hb
      (try simp only [sI, sS, sZ])
      refine wpBut_r1 (i := 7) (by kernel_rfl) ?_
      obtain ⟨Zq, hZ, mZ⟩ := MA6.out
      refine go_store2 7 #[tt,tt,tt,tt,tt,tt,tt,tt] rfl rfl rfl (by rfl) 36 _ _ rfl _ _ rfl rfl 36 Zq mZ (by rw [e4_size]; kernel_rfl) (hZ.trans (e4_size ..).symm) (row_one _ _ _) ?_
      intro wW55 hw2
      have hkW55 := below_setRow (hkW54) _ (e4 m9) HA6.out
      rw [← hw2] at hkW55
      clear MA6
      have MA6 := Lib.hid (mZ.setRow (e4 m9))
      rw [← hw2] at MA6; clear mZ hZ hw2
      refine ⟨fun _ => hkW55, ?_⟩
      (try simp only [sI, sS, sZ])
      exact wpBut_done (by kernel_rfl) (NoPanic.normal (HQ.out (_, m7, m8, m9) _ ⟨hm9, Hp50.out m6 m7 m8 m5 m9 Hk6.out Hk5.out hm7r hm8r hm9r, HA6.out, MA6.out, (hkW55)⟩))
    · rintro W5 ⟨B7, m7, m8, m9⟩ vw5 hW5 ⟨hm9, hm9r, hBq0, mBq0, hbw⟩
      simp only [Act.put, List.setIfInBounds_toArray, List.set_cons_succ, List.set_cons_zero] at hm9 hm9r hBq0  mBq0 ⊢
      rw [← hW5] at M1 M5 M6 HB
      clear hW5
      have hltM1_5 := M1.out.lt
      have hltM5_5 := M5.out.lt
      have hltM6_5 := M6.out.lt
      replace M1 := Lib.hid (M1.out.call hbw)
      replace M5 := Lib.hid (M5.out.call hbw)
      replace M6 := Lib.hid (M6.out.call hbw)
      replace HB := Lib.hid (held_next HB.out hbw)
      have M7 := Lib.hid mBq0; clear mBq0
      clear hbw
      have Hm9r := Lib.hid hm9r; clear hm9r
      clear M5 M6
      go_step
      go_step
      go_step
      go_step
      (refine wpList_step (fun K hK => ?_); go_simp; (try go_bits); refine hK _ _ ?_; clear hK K)
      refine wpList_load (by rfl) 36 _ rfl (B7) rfl 36 (e4 m9) M7.out Try.underlying36 rfl (by rw [e4_size]; kernel_rfl) 30 rfl ?_
      (try simp only [Act.put, sI, sS, sZ])
      refine wpList_call (by rfl) rfl rfl (by rfl) ent110 (by rfl) (Hg50.out m9 hm9 _) 31 rfl ?_
      rintro e uw3 ⟨m10, hm10, hm10r, rfl, hb⟩
      replace M1 := Lib.hid (M1.out.call hb)
      replace M7 := Lib.hid (M7.out.call hb)
      replace HB := Lib.hid (held_next HB.out hb)
      refine ⟨_, rfl, ?_⟩
      clear hb
      (try simp only [Act.put, sI, sS, sZ])
      refine wpList_step (fun K hK => ?_)
      go_simp
      have hlt6 := M1.out.lt
      have hlt7 := M7.out.lt
      replace M1 := Lib.hid (M1.out.alloc (.cells (#[.int .u64 0, .int .u64 0, .int .u64 0, .int .u64 0] : Array Value) 36))
      replace M7 := Lib.hid (M7.out.alloc (.cells (#[.int .u64 0, .int .u64 0, .int .u64 0, .int .u64 0] : Array Value) 36))
      have M8 := Lib.hid (HasN.new uw3 (#[.int .u64 0, .int .u64 0, .int .u64 0, .int .u64 0] : Array Value) 36 4 rfl)
      have hsz := HB.out.size
      replace HB := Lib.hid (HB.out.alloc hsz (.cells (#[.int .u64 0, .int .u64 0, .int .u64 0, .int .u64 0] : Array Value) 36))
      refine hK _ _ ?_
      clear hK K
      first | (obtain ⟨Zq, hZ, mZ⟩ := M8.out) | (obtain ⟨Zq, hZ, mZ⟩ := M8.out.toN (e4_size _))
      clear M8
      have hZ' := Lib.hid hZ; clear hZ
      have mZ' := Lib.hid mZ; clear mZ
      refine wpList_store_row rfl 36 _ _ rfl (uw3.heap.size) _ rfl rfl 36 Zq mZ'.out (by rw [e4_size]; kernel_rfl) (hZ'.out.trans (e4_size _).symm) (row_one _ _ _) ?_
      (try simp only [Act.put, sI, sS, sZ])
      replace M1 := Lib.hid (M1.out.setRow_other (uw3.heap.size) (e4 m10) (by omega))
      replace M7 := Lib.hid (M7.out.setRow_other (uw3.heap.size) (e4 m10) (by omega))
      have M8 := Lib.hid (mZ'.out.setRow (e4 m10))
      clear mZ' hZ'
      replace HB := Lib.hid (below_setRow HB.out (uw3.heap.size) (e4 m10) (by omega))
      refine wpList_nil ?_
      have hk10 := Hgo.out m9 1125899906842623 1125899906842625 m10 1267650600228229401496703205375 Hm9r.out hm10r (by decide +kernel)
      have Hk10 := Lib.hid hk10; clear hk10
      clear hm10r
      go_step
      go_step
      go_step
      refine wp_region_noPanic ?_
      refine wp_region_go 6 7 #[ff,ff,ff,ff,ff,ff,ff] (by kernel_rfl) rfl rfl ?_
      intro W8 hW8
      rw [← hW8] at M1 M7 M8 HB
      clear hW8
      have M1N := Lib.hid (by first | exact M1.out | exact M1.out.toN (by first | exact e4_size _ | exact r22_size _ | exact k32_size _ | exact pt_size .. | exact rp_size ..) : HasN W8 (w.heap.size + 1) _ _)
      refine go_take2 0 32 #[tt,ff,ff,ff,ff,ff,ff] (v := ?uv4) rfl rfl rfl (by kernel_rfl) (Or.inl ⟨by rfl, ?uy4⟩) ((below_dr W8)) ?urest4
      case uy4 => (intro _ _; go_simp; try with_reducible rfl)
      (try simp only [sI, sS, sZ])
      refine go_take2 1 33 #[tt,tt,ff,ff,ff,ff,ff] rfl rfl rfl (by kernel_rfl) (yieldsIf_load_row (by rfl) 36 _ rfl (uw3.heap.size) rfl 36 (e4 m10) (fun _ h => M8.out.below h M8.out.lt) Try.underlying36 rfl (by rw [e4_size]; kernel_rfl)) ((below_dr W8)) ?_
      (try simp only [sI, sS, sZ])
      refine go_take2 4 36 #[tt,tt,ff,ff,tt,ff,ff] rfl rfl rfl (by kernel_rfl) (yieldsIf_load_row (by rfl) 36 _ rfl (B7) rfl 36 (e4 m9) (fun _ h => M7.out.below h M7.out.lt) Try.underlying36 rfl (by rw [e4_size]; kernel_rfl)) ((below_dr W8)) ?_
      (try simp only [sI, sS, sZ])
      refine wpBut_r1 (i := 2) (by kernel_rfl) ?_
      refine go_call 2 34 #[tt,tt,tt,ff,tt,ff,ff] rfl rfl rfl (by rfl) rfl rfl (by rfl) ent110 (by rfl) (Hg100.out m10 hm10 _) ?_
      rintro e wW81 ⟨m11, hm11, hm11r, rfl, hb⟩
      have hkW81 := held_next (below_dr W8) hb
      refine ⟨_, rfl, fun _ => hkW81, ?_⟩
      clear hb
      (try simp only [sI, sS, sZ])
      refine wpBut_r1 (i := 3) (by kernel_rfl) ?_
      refine go_call 3 35 #[tt,tt,tt,tt,tt,ff,ff] rfl rfl rfl (by rfl) rfl rfl (by rfl) ent83 (by rfl) (Hs50.out m11 hm11 _) ?_
      rintro e wW82 ⟨m12, hm12, hm12r, rfl, hb⟩
      have hkW82 := held_next hkW81 hb
      refine ⟨_, rfl, fun _ => hkW82, ?_⟩
      clear hb
      (try simp only [sI, sS, sZ])
      refine wpBut_r1 (i := 5) (by kernel_rfl) ?_
      refine go_call 5 37 #[tt,tt,tt,tt,tt,tt,ff] rfl rfl rfl (by rfl) rfl rfl (by rfl) ent31 (by rfl) (Ht.out m12 m9 hm12 hm9 _) ?_
      rintro e wW83 ⟨m13, hm13, hm13r, rfl, hb⟩
      have hkW83 := held_next hkW82 hb
      refine ⟨_, rfl, fun _ => hkW83, ?_⟩
      clear hb
      (try simp only [sI, sS, sZ])
      refine wpBut_r1 (i := 6) (by kernel_rfl) ?_
      obtain ⟨Zq, hZ, mZ⟩ := M1N.out.below hkW83 M1N.out.lt
      have MZ := Lib.hid mZ; clear mZ
      have HZ := Lib.hid hZ; clear hZ
      refine go_store 6 #[tt,tt,tt,tt,tt,tt,tt] rfl rfl rfl (by rfl) 36 _ _ rfl (w.heap.size + 1) _ rfl rfl 36 Zq MZ.out (by rw [e4_size]; kernel_rfl) (HZ.out.trans (e4_size ..).symm) (row_one _ _ _) ⟨fun h => (h rfl).elim, ?_⟩
      (try simp only [sI, sS, sZ])
      refine wpBut_done (by kernel_rfl) (NoPanic.normal ?_)
      replace M7 := Lib.hid ((M7.out.call hkW83).setRow_other (w.heap.size + 1) (e4 m13) (by omega))
      replace M8 := Lib.hid ((M8.out.call hkW83).setRow_other (w.heap.size + 1) (e4 m13) (by omega))
      clear M1 M1N
      have M1 := Lib.hid (MZ.out.setRow (e4 m13)); clear MZ HZ
      replace HB := Lib.hid (below_setRow (held_next HB.out hkW83) (w.heap.size + 1) (e4 m13) (by omega))
      have hfin := Hpa.out m10 m11 m12 m9 m13 Hk10.out Hm9r.out hm11r hm12r hm13r
      have Hfin := Lib.hid hfin; clear hfin
      go_wp2_with fail
      exact bodyPost_ret (v := .agg (e4 m13)) (results_cell_row (t := 36) (by rfl) _ _ (w.heap.size + 1) _ _ _ rfl M1.out Try.underlying36 rfl (by rw [e4_size]; kernel_rfl)) rfl ⟨m13, hm13, Hfin.out, rfl, HB.out⟩
end Go.Proofs.Ytjiagjonlcadiaa
end
section
namespace Go.Proofs.Ytjiagjonlcadiaa
open Go.RowKit Go.Lib

theorem p_over (a b n1 n2 n3 n4 n5 n6 n7 n8 : Nat) (h1 : n1 % PP = pwm b 2) (h2 : n2 % PP = pwm n1 4) (h3 : n3 % PP = n2 * b % PP) (h4 : n4 % PP = n3 * n1 % PP)
    (h5 : n5 % PP = pwm b 1809251394333065553493296640760748560207343510400633813116524750123642650623) (h6 : n6 % PP = pwm n5 32) (h7 : n7 % PP = n6 * n4 % PP) (h8 : n8 % PP = a * n7 % PP) : n8 % PP = a * pwm b (PP - 2) % PP := by
  have k2 := pw_go b n1 2 4 n2 8 h1 h2 rfl
  have k3 := pw_by b n2 b 8 1 n3 9 k2 (pw_self b) h3 rfl
  have k4 := pw_by b n3 n1 9 2 n4 11 k3 h1 h4 rfl
  have k6 := pw_go b n5 1809251394333065553493296640760748560207343510400633813116524750123642650623 32 n6 57896044618658097711785492504343953926634992332820282019728792003956564819936 h5 h6 (by decide +kernel)
  have k7 := pw_by b n6 n4 57896044618658097711785492504343953926634992332820282019728792003956564819936 11 n7 (PP - 2) k6 k4 h7 (by decide +kernel)
  rw [h8, Nat.mul_mod, k7, Nat.mod_mul_mod]

set_option maxRecDepth 100000 in
set_option linter.unusedSimpArgs false in
set_option maxHeartbeats 8000000 in
theorem over_any (a b : Nat) (ha : a < 115792089237316195423570985008687907853269984665640564039457584007913129639936) (hb0 : b < 115792089237316195423570985008687907853269984665640564039457584007913129639936) (w : World) :
    Calls Try.prog 42 #[.agg (e4 a), .agg (e4 b)] w (ElP (a * pwm b (PP - 2) % PP) w) := by
  have hs1 := fun w => squares_1 b hb0 w
  have hs2 := squares_2
  have hs5 := squares_5
  have ht := fun x y hx hy w => times_any x y hx hy w
  have hpw := fun w => power_any b hb0 w
  have hpo := p_over a b
  have Hs1 := Lib.hid hs1; clear hs1
  have Hs2 := Lib.hid hs2; clear hs2
  have Hs5 := Lib.hid hs5; clear hs5
  have Ht := Lib.hid ht; clear ht
  have Hpw := Lib.hid hpw; clear hpw
  have Hpo := Lib.hid hpo; clear hpo
  have Ha := Lib.hid ha; clear ha
  have Hb0 := Lib.hid hb0; clear hb0
  obtain ⟨R, hR⟩ : ∃ R, R = a * pwm b (PP - 2) % PP := ⟨_, rfl⟩
  rw [← hR] at Hpo ⊢
  clear hR
  go_enter Try.func42, Try.ntmps42
  go_step
  go_step
  iterate 3 (refine wpList_step (fun K hK => ?_); go_simp; (try go_bits); refine hK _ _ ?_; clear hK K)
  refine wpList_nil ?_
  have M2 := Lib.hid (((Has.new w  (e4 a) 36).alloc (.cells (e4 b) 36)).alloc (.cells (#[.int .u64 0, .int .u64 0, .int .u64 0, .int .u64 0] : Array Value) 36))
  have M3 := Lib.hid ((Has.new1 w (.cells (e4 a) 36) (e4 b) 36).alloc (.cells (#[.int .u64 0, .int .u64 0, .int .u64 0, .int .u64 0] : Array Value) 36))
  have M4 := Lib.hid (HasN.new2 w (.cells (e4 a) 36) (.cells (e4 b) 36) (#[.int .u64 0, .int .u64 0, .int .u64 0, .int .u64 0] : Array Value) 36 4 (by kernel_rfl))
  have HB := Lib.hid (below_3 w (.cells (e4 a) 36) (.cells (e4 b) 36) (.cells (#[.int .u64 0, .int .u64 0, .int .u64 0, .int .u64 0] : Array Value) 36))
  go_step
  go_step
  go_step
  go_step
  refine wpList_load (by rfl) 36 _ rfl (w.heap.size + 1) rfl 36 (e4 b) M3.out Try.underlying36 rfl (by rw [e4_size]; kernel_rfl) 7 rfl ?_
  (try simp only [Act.put, sI, sS, sZ])
  refine wpList_call (by rfl) rfl rfl (by rfl) ent83 (by rfl) (Hs1.out _) 8 rfl ?_
  rintro e uw1 ⟨n1, hn1, hn1r, rfl, hb⟩
  replace M2 := Lib.hid (M2.out.call hb)
  replace M3 := Lib.hid (M3.out.call hb)
  replace M4 := Lib.hid (M4.out.call hb)
  replace HB := Lib.hid (held_next HB.out hb)
  refine ⟨_, rfl, ?_⟩
  clear hb
  (try simp only [Act.put, sI, sS, sZ])
  refine wpList_step (fun K hK => ?_)
  go_simp
  have hlt1 := M2.out.lt
  have hlt2 := M3.out.lt
  have hlt3 := M4.out.lt
  replace M2 := Lib.hid (M2.out.alloc (.cells (#[.int .u64 0, .int .u64 0, .int .u64 0, .int .u64 0] : Array Value) 36))
  replace M3 := Lib.hid (M3.out.alloc (.cells (#[.int .u64 0, .int .u64 0, .int .u64 0, .int .u64 0] : Array Value) 36))
  replace M4 := Lib.hid (M4.out.alloc (.cells (#[.int .u64 0, .int .u64 0, .int .u64 0, .int .u64 0] : Array Value) 36))
  have M5 := Lib.hid (HasN.new uw1 (#[.int .u64 0, .int .u64 0, .int .u64 0, .int .u64 0] : Array Value) 36 4 rfl)
  have hsz := HB.out.size
  replace HB := Lib.hid (HB.out.alloc hsz (.cells (#[.int .u64 0, .int .u64 0, .int .u64 0, .int .u64 0] : Array Value) 36))
  refine hK _ _ ?_
  clear hK K
  first | (obtain ⟨Zq, hZ, mZ⟩ := M5.out) | (obtain ⟨Zq, hZ, mZ⟩ := M5.out.toN (e4_size _))
  clear M5
  have hZ' := Lib.hid hZ; clear hZ
  have mZ' := Lib.hid mZ; clear mZ
  refine wpList_store_row rfl 36 _ _ rfl (uw1.heap.size) _ rfl rfl 36 Zq mZ'.out (by rw [e4_size]; kernel_rfl) (hZ'.out.trans (e4_size _).symm) (row_one _ _ _) ?_
  (try simp only [Act.put, sI, sS, sZ])
  replace M2 := Lib.hid (M2.out.setRow_other (uw1.heap.size) (e4 n1) (by omega))
  replace M3 := Lib.hid (M3.out.setRow_other (uw1.heap.size) (e4 n1) (by omega))
  replace M4 := Lib.hid (M4.out.setRow_other (uw1.heap.size) (e4 n1) (by omega))
  have M5 := Lib.hid (mZ'.out.setRow (e4 n1))
  clear mZ' hZ'
  replace HB := Lib.hid (below_setRow HB.out (uw1.heap.size) (e4 n1) (by omega))
  refine wpList_nil ?_
  have Hn1r := Lib.hid hn1r; clear hn1r
  go_step
  go_step
  go_step
  refine wp_region_meet (α := Nat × Nat × Nat × Nat) (fun W0 x w' => x.2.2.2 < 115792089237316195423570985008687907853269984665640564039457584007913129639936 ∧ x.2.1 % PP = pwm n1 4 ∧ x.2.2.1 % PP = x.2.1 * b % PP ∧ x.2.2.2 % PP = x.2.2.1 * n1 % PP ∧ W0.heap.size ≤ x.1 ∧ Has w' x.1 (e4 x.2.2.2) 36 ∧ Below W0.heap.size W0 w') (fun ac x => (((((((ac.put (some 9) (.agg (e4 n1))).put (some 10) (.agg (e4 x.2.1))).put (some 11) (.agg (e4 b))).put (some 12) (.agg (e4 x.2.2.1))).put (some 13) (.agg (e4 n1))).put (some 14) (.agg (e4 x.2.2.2))).put (some 6) (.pointer (some ⟨x.1, 0, none⟩)))) ?_ ?_
  · intro Q' hQ'
    refine wp_region_noPanic ?_
    refine wp_region_go 99 8 #[ff,ff,ff,ff,ff,ff,ff,ff] (by kernel_rfl) rfl rfl ?_
    intro W4 hW4
    rw [← hW4] at hQ'
    simp only [Act.put, List.setIfInBounds_toArray, List.set_cons_succ, List.set_cons_zero] at hQ'
    have HQ := Lib.hid hQ'; clear hQ'
    rw [← hW4] at M2 M3 M4 M5 HB
    clear hW4
    refine go_take2 0 9 #[tt,ff,ff,ff,ff,ff,ff,ff] rfl rfl rfl (by kernel_rfl) (yieldsIf_load_row (by rfl) 36 _ rfl (uw1.heap.size) rfl 36 (e4 n1) (fun _ h => M5.out.below h M5.out.lt) Try.underlying36 rfl (by rw [e4_size]; kernel_rfl)) ((below_dr W4)) ?_
    (try simp only [sI, sS, sZ])
    refine go_take2 2 11 #[tt,ff,tt,ff,ff,ff,ff,ff] rfl rfl rfl (by kernel_rfl) (yieldsIf_load_row (by rfl) 36 _ rfl (w.heap.size + 1) rfl 36 (e4 b) (fun _ h => M3.out.below h M3.out.lt) Try.underlying36 rfl (by rw [e4_size]; kernel_rfl)) ((below_dr W4)) ?_
    (try simp only [sI, sS, sZ])
    refine go_take2 4 13 #[tt,ff,tt,ff,tt,ff,ff,ff] rfl rfl rfl (by kernel_rfl) (yieldsIf_load_row (by rfl) 36 _ rfl (uw1.heap.size) rfl 36 (e4 n1) (fun _ h => M5.out.below h M5.out.lt) Try.underlying36 rfl (by rw [e4_size]; kernel_rfl)) ((below_dr W4)) ?_
    (try simp only [sI, sS, sZ])
    refine wpBut_r2 (i := 1) (j := 6) (by kernel_rfl) ?_ ?_
    refine go_call 1 10 #[tt,tt,tt,ff,tt,ff,ff,ff] rfl rfl rfl (by rfl) rfl rfl (by rfl) ent83 (by rfl) (Hs2.out n1 hn1 _) ?_
    rintro e wW41 ⟨n2, hn2, hn2r, rfl, hb⟩
    have hkW41 := held_next (below_dr W4) hb
    refine ⟨_, rfl, fun _ => hkW41, ?_⟩
    clear hb
    (try simp only [sI, sS, sZ])
    refine wpBut_r2 (i := 3) (j := 6) (by kernel_rfl) ?_ ?_
    refine go_call 3 12 #[tt,tt,tt,tt,tt,ff,ff,ff] rfl rfl rfl (by rfl) rfl rfl (by rfl) ent31 (by rfl) (Ht.out n2 b hn2 Hb0.out _) ?_
    rintro e wW42 ⟨n3, hn3, hn3r, rfl, hb⟩
    have hkW42 := held_next hkW41 hb
    refine ⟨_, rfl, fun _ => hkW42, ?_⟩
    clear hb
    (try simp only [sI, sS, sZ])
    refine wpBut_r2 (i := 5) (j := 6) (by kernel_rfl) ?_ ?_
    refine go_call 5 14 #[tt,tt,tt,tt,tt,tt,ff,ff] rfl rfl rfl (by rfl) rfl rfl (by rfl) ent31 (by rfl) (Ht.out n3 n1 hn3 hn1 _) ?_
    rintro e wW43 ⟨n4, hn4, hn4r, rfl, hb⟩
    have hkW43 := held_next hkW42 hb
    refine ⟨_, rfl, fun _ => hkW43, ?_⟩
    clear hb
    (try simp only [sI, sS, sZ])
    refine wpBut_r1 (i := 6) (by kernel_rfl) ?_
    refine go_alloc 6 6 #[tt,tt,tt,tt,tt,tt,tt,ff] rfl rfl rfl (by rfl) 36 rfl _ al36 ?_
    intro wW44 hw2
    have hkW44 := (hkW43).alloc (hkW43).size (.cells z36 36)
    rw [← hw2] at hkW44
    have MA6 := Lib.hid (HasN.new (wW43) z36 36 4 (by kernel_rfl))
    rw [← hw2] at MA6
    have HA6 := Lib.hid (show W4.heap.size ≤ _ from (hkW43).size)
    clear hw2
    refine ⟨fun _ => hkW44, ?_⟩
    (try simp only [sI, sS, sZ])
    refine wpBut_r1 (i := 7) (by kernel_rfl) ?_
    obtain ⟨Zq, hZ, mZ⟩ := MA6.out
    refine go_store2 7 #[tt,tt,tt,tt,tt,tt,tt,tt] rfl rfl rfl (by rfl) 36 _ _ rfl _ _ rfl rfl 36 Zq mZ (by rw [e4_size]; kernel_rfl) (hZ.trans (e4_size ..).symm) (row_one _ _ _) ?_
    intro wW45 hw2
    have hkW45 := below_setRow (hkW44) _ (e4 n4) HA6.out
    rw [← hw2] at hkW45
    clear MA6
    have MA6 := Lib.hid (mZ.setRow (e4 n4))
    rw [← hw2] at MA6; clear mZ hZ hw2
    refine ⟨fun _ => hkW45, ?_⟩
    (try simp only [sI, sS, sZ])
    exact wpBut_done (by kernel_rfl) (NoPanic.normal (HQ.out (_, n2, n3, n4) _ ⟨hn4, hn2r, hn3r, hn4r, HA6.out, MA6.out, (hkW45)⟩))
    refine go_alloc 6 6 #[tt,tt,tt,tt,tt,ff,tt,ff] rfl rfl rfl (by rfl) 36 rfl _ al36 ?_
    intro wW43 hw2
    have hkW43 := (hkW42).alloc (hkW42).size (.cells z36 36)
    rw [← hw2] at hkW43
    have MA6 := Lib.hid (HasN.new (wW42) z36 36 4 (by kernel_rfl))
    rw [← hw2] at MA6
    have HA6 := Lib.hid (show W4.heap.size ≤ _ from (hkW42).size)
    clear hw2
    refine ⟨fun _ => hkW43, ?_⟩
    (try simp only [sI, sS, sZ])
    refine wpBut_r1 (i := 5) (by kernel_rfl) ?_
    refine go_call 5 14 #[tt,tt,tt,tt,tt,tt,tt,ff] rfl rfl rfl (by rfl) rfl rfl (by rfl) ent31 (by rfl) (Ht.out n3 n1 hn3 hn1 _) ?_
    rintro e wW44 ⟨n4, hn4, hn4r, rfl, hb⟩
    have hkW44 := held_next hkW43 hb
    replace MA6 := Lib.hid (MA6.out.call hb)
    refine ⟨_, rfl, fun _ => hkW44, ?_⟩
    clear hb
    (try simp only [sI, sS, sZ])
    refine wpBut_r1 (i := 7) (by kernel_rfl) ?_
    obtain ⟨Zq, hZ, mZ⟩ := MA6.out
    refine go_store2 7 #[tt,tt,tt,tt,tt,tt,tt,tt] rfl rfl rfl (by rfl) 36 _ _ rfl _ _ rfl rfl 36 Zq mZ (by rw [e4_size]; kernel_rfl) (hZ.trans (e4_size ..).symm) (row_one _ _ _) ?_
    intro wW45 hw2
    have hkW45 := below_setRow (hkW44) _ (e4 n4) HA6.out
    rw [← hw2] at hkW45
    clear MA6
    have MA6 := Lib.hid (mZ.setRow (e4 n4))
    rw [← hw2] at MA6; clear mZ hZ hw2
    refine ⟨fun _ => hkW45, ?_⟩
    (try simp only [sI, sS, sZ])
    exact wpBut_done (by kernel_rfl) (NoPanic.normal (HQ.out (_, n2, n3, n4) _ ⟨hn4, hn2r, hn3r, hn4r, HA6.out, MA6.out, (hkW45)⟩))
    refine go_alloc 6 6 #[tt,tt,tt,ff,tt,ff,tt,ff] rfl rfl rfl (by rfl) 36 rfl _ al36 ?_
    intro wW42 hw2
    have hkW42 := (hkW41).alloc (hkW41).size (.cells z36 36)
    rw [← hw2] at hkW42
    have MA6 := Lib.hid (HasN.new (wW41) z36 36 4 (by kernel_rfl))
    rw [← hw2] at MA6
    have HA6 := Lib.hid (show W4.heap.size ≤ _ from (hkW41).size)
    clear hw2
    refine ⟨fun _ => hkW42, ?_⟩
    (try simp only [sI, sS, sZ])
    refine wpBut_r1 (i := 3) (by kernel_rfl) ?_
    refine go_call 3 12 #[tt,tt,tt,tt,tt,ff,tt,ff] rfl rfl rfl (by rfl) rfl rfl (by rfl) ent31 (by rfl) (Ht.out n2 b hn2 Hb0.out _) ?_
    rintro e wW43 ⟨n3, hn3, hn3r, rfl, hb⟩
    have hkW43 := held_next hkW42 hb
    replace MA6 := Lib.hid (MA6.out.call hb)
    refine ⟨_, rfl, fun _ => hkW43, ?_⟩
    clear hb
    (try simp only [sI, sS, sZ])
    refine wpBut_r1 (i := 5) (by kernel_rfl) ?_
    refine go_call 5 14 #[tt,tt,tt,tt,tt,tt,tt,ff] rfl rfl rfl (by rfl) rfl rfl (by rfl) ent31 (by rfl) (Ht.out n3 n1 hn3 hn1 _) ?_
    rintro e wW44 ⟨n4, hn4, hn4r, rfl, hb⟩
    have hkW44 := held_next hkW43 hb
    replace MA6 := Lib.hid (MA6.out.call hb)
    refine ⟨_, rfl, fun _ => hkW44, ?_⟩
    clear hb
    (try simp only [sI, sS, sZ])
    refine wpBut_r1 (i := 7) (by kernel_rfl) ?_
    obtain ⟨Zq, hZ, mZ⟩ := MA6.out
    refine go_store2 7 #[tt,tt,tt,tt,tt,tt,tt,tt] rfl rfl rfl (by rfl) 36 _ _ rfl _ _ rfl rfl 36 Zq mZ (by rw [e4_size]; kernel_rfl) (hZ.trans (e4_size ..).symm) (row_one _ _ _) ?_
    intro wW45 hw2
    have hkW45 := below_setRow (hkW44) _ (e4 n4) HA6.out
    rw [← hw2] at hkW45
    clear MA6
    have MA6 := Lib.hid (mZ.setRow (e4 n4))
    rw [← hw2] at MA6; clear mZ hZ hw2
    refine ⟨fun _ => hkW45, ?_⟩
    (try simp only [sI, sS, sZ])
    exact wpBut_done (by kernel_rfl) (NoPanic.normal (HQ.out (_, n2, n3, n4) _ ⟨hn4, hn2r, hn3r, hn4r, HA6.out, MA6.out, (hkW45)⟩))
    refine go_alloc 6 6 #[tt,ff,tt,ff,tt,ff,tt,ff] rfl rfl rfl (by rfl) 36 rfl _ al36 ?_
    intro wW41 hw2
    have hkW41 := ((below_dr W4)).alloc ((below_dr W4)).size (.cells z36 36)
    rw [← hw2] at hkW41
    have MA6 := Lib.hid (HasN.new (W4.drew) z36 36 4 (by kernel_rfl))
    rw [← hw2] at MA6
    have HA6 := Lib.hid (show W4.heap.size ≤ _ from ((below_dr W4)).size)
    clear hw2
    refine ⟨fun _ => hkW41, ?_⟩
    (try simp only [sI, sS, sZ])
    refine wpBut_r1 (i := 1) (by kernel_rfl) ?_
    refine go_call 1 10 #[tt,tt,tt,ff,tt,ff,tt,ff] rfl rfl rfl (by rfl) rfl rfl (by rfl) ent83 (by rfl) (Hs2.out n1 hn1 _) ?_
    rintro e wW42 ⟨n2, hn2, hn2r, rfl, hb⟩
    have hkW42 := held_next hkW41 hb
    replace MA6 := Lib.hid (MA6.out.call hb)
    refine ⟨_, rfl, fun _ => hkW42, ?_⟩
    clear hb
    (try simp only [sI, sS, sZ])
    refine wpBut_r1 (i := 3) (by kernel_rfl) ?_
    refine go_call 3 12 #[tt,tt,tt,tt,tt,ff,tt,ff] rfl rfl rfl (by rfl) rfl rfl (by rfl) ent31 (by rfl) (Ht.out n2 b hn2 Hb0.out _) ?_
    rintro e wW43 ⟨n3, hn3, hn3r, rfl, hb⟩
    have hkW43 := held_next hkW42 hb
    replace MA6 := Lib.hid (MA6.out.call hb)
    refine ⟨_, rfl, fun _ => hkW43, ?_⟩
    clear hb
    (try simp only [sI, sS, sZ])
    refine wpBut_r1 (i := 5) (by kernel_rfl) ?_
    refine go_call 5 14 #[tt,tt,tt,tt,tt,tt,tt,ff] rfl rfl rfl (by rfl) rfl rfl (by rfl) ent31 (by rfl) (Ht.out n3 n1 hn3 hn1 _) ?_
    rintro e wW44 ⟨n4, hn4, hn4r, rfl, hb⟩
    have hkW44 := held_next hkW43 hb
    replace MA6 := Lib.hid (MA6.out.call hb)
    refine ⟨_, rfl, fun _ => hkW44, ?_⟩
    clear hb
    (try simp only [sI, sS, sZ])
    refine wpBut_r1 (i := 7) (by kernel_rfl) ?_
    obtain ⟨Zq, hZ, mZ⟩ := MA6.out
    refine go_store2 7 #[tt,tt,tt,tt,tt,tt,tt,tt] rfl rfl rfl (by rfl) 36 _ _ rfl _ _ rfl rfl 36 Zq mZ (by rw [e4_size]; kernel_rfl) (hZ.trans (e4_size ..).symm) (row_one _ _ _) ?_
    intro wW45 hw2
    have hkW45 := below_setRow (hkW44) _ (e4 n4) HA6.out
    rw [← hw2] at hkW45
    clear MA6
    have MA6 := Lib.hid (mZ.setRow (e4 n4))
    rw [← hw2] at MA6; clear mZ hZ hw2
    refine ⟨fun _ => hkW45, ?_⟩
    (try simp only [sI, sS, sZ])
    exact wpBut_done (by kernel_rfl) (NoPanic.normal (HQ.out (_, n2, n3, n4) _ ⟨hn4, hn2r, hn3r, hn4r, HA6.out, MA6.out, (hkW45)⟩))
  · rintro W4 ⟨B6, n2, n3, n4⟩ vw4 hW4 ⟨hn4, hn2r, hn3r, hn4r, hBq0, mBq0, hbw⟩
    simp only [Act.put, List.setIfInBounds_toArray, List.set_cons_succ, List.set_cons_zero] at hn4 hn2r hn3r hn4r hBq0  mBq0 ⊢
    rw [← hW4] at M2 M3 M4 M5 HB
    clear hW4
    have hltM2_4 := M2.out.lt
    have hltM3_4 := M3.out.lt
    have hltM4_4 := M4.out.lt
    have hltM5_4 := M5.out.lt
    replace M2 := Lib.hid (M2.out.call hbw)
    replace M3 := Lib.hid (M3.out.call hbw)
    replace M4 := Lib.hid (M4.out.call hbw)
    replace M5 := Lib.hid (M5.out.call hbw)
    replace HB := Lib.hid (held_next HB.out hbw)
    have M6 := Lib.hid mBq0; clear mBq0
    clear hbw
    have Hn2r := Lib.hid hn2r; clear hn2r
    have Hn3r := Lib.hid hn3r; clear hn3r
    have Hn4r := Lib.hid hn4r; clear hn4r
    clear M5
    go_step
    go_step
    go_step
    refine wp_region_noPanic ?_
    refine wp_region_go 7 8 #[ff,ff,ff,ff,ff,ff,ff,ff] (by kernel_rfl) rfl rfl ?_
    intro W5 hW5
    rw [← hW5] at M2 M3 M4 M6 HB
    clear hW5
    have M4N := Lib.hid (by first | exact M4.out | exact M4.out.toN (by first | exact e4_size _ | exact r22_size _ | exact k32_size _ | exact pt_size .. | exact rp_size ..) : HasN W5 (w.heap.size + 1 + 1) _ _)
    refine go_take2 0 15 #[tt,ff,ff,ff,ff,ff,ff,ff] rfl rfl rfl (by kernel_rfl) (yieldsIf_load_row (by rfl) 36 _ rfl (w.heap.size) rfl 36 (e4 a) (fun _ h => M2.out.below h M2.out.lt) Try.underlying36 rfl (by rw [e4_size]; kernel_rfl)) ((below_dr W5)) ?_
    (try simp only [sI, sS, sZ])
    refine go_take2 1 16 #[tt,tt,ff,ff,ff,ff,ff,ff] rfl rfl rfl (by kernel_rfl) (yieldsIf_load_row (by rfl) 36 _ rfl (w.heap.size + 1) rfl 36 (e4 b) (fun _ h => M3.out.below h M3.out.lt) Try.underlying36 rfl (by rw [e4_size]; kernel_rfl)) ((below_dr W5)) ?_
    (try simp only [sI, sS, sZ])
    refine go_take2 4 19 #[tt,tt,ff,ff,tt,ff,ff,ff] rfl rfl rfl (by kernel_rfl) (yieldsIf_load_row (by rfl) 36 _ rfl (B6) rfl 36 (e4 n4) (fun _ h => M6.out.below h M6.out.lt) Try.underlying36 rfl (by rw [e4_size]; kernel_rfl)) ((below_dr W5)) ?_
    (try simp only [sI, sS, sZ])
    refine wpBut_r1 (i := 2) (by kernel_rfl) ?_
    refine go_call 2 17 #[tt,tt,tt,ff,tt,ff,ff,ff] rfl rfl rfl (by rfl) rfl rfl (by rfl) ent84 (by rfl) (Hpw.out _) ?_
    rintro e wW51 ⟨n5, hn5, hn5r, rfl, hb⟩
    have hkW51 := held_next (below_dr W5) hb
    refine ⟨_, rfl, fun _ => hkW51, ?_⟩
    clear hb
    (try simp only [sI, sS, sZ])
    refine wpBut_r1 (i := 3) (by kernel_rfl) ?_
    refine go_call 3 18 #[tt,tt,tt,tt,tt,ff,ff,ff] rfl rfl rfl (by rfl) rfl rfl (by rfl) ent83 (by rfl) (Hs5.out n5 hn5 _) ?_
    rintro e wW52 ⟨n6, hn6, hn6r, rfl, hb⟩
    have hkW52 := held_next hkW51 hb
    refine ⟨_, rfl, fun _ => hkW52, ?_⟩
    clear hb
    (try simp only [sI, sS, sZ])
    refine wpBut_r1 (i := 5) (by kernel_rfl) ?_
    refine go_call 5 20 #[tt,tt,tt,tt,tt,tt,ff,ff] rfl rfl rfl (by rfl) rfl rfl (by rfl) ent31 (by rfl) (Ht.out n6 n4 hn6 hn4 _) ?_
    rintro e wW53 ⟨n7, hn7, hn7r, rfl, hb⟩
    have hkW53 := held_next hkW52 hb
    refine ⟨_, rfl, fun _ => hkW53, ?_⟩
    clear hb
    (try simp only [sI, sS, sZ])
    refine wpBut_r1 (i := 6) (by kernel_rfl) ?_
    refine go_call 6 21 #[tt,tt,tt,tt,tt,tt,tt,ff] rfl rfl rfl (by rfl) rfl rfl (by rfl) ent31 (by rfl) (Ht.out a n7 Ha.out hn7 _) ?_
    rintro e wW54 ⟨n8, hn8, hn8r, rfl, hb⟩
    have hkW54 := held_next hkW53 hb
    refine ⟨_, rfl, fun _ => hkW54, ?_⟩
    clear hb
    (try simp only [sI, sS, sZ])
    refine wpBut_r1 (i := 7) (by kernel_rfl) ?_
    obtain ⟨Zq, hZ, mZ⟩ := M4N.out.below hkW54 M4N.out.lt
    have MZ := Lib.hid mZ; clear mZ
    have HZ := Lib.hid hZ; clear hZ
    refine go_store 7 #[tt,tt,tt,tt,tt,tt,tt,tt] rfl rfl rfl (by rfl) 36 _ _ rfl (w.heap.size + 1 + 1) _ rfl rfl 36 Zq MZ.out (by rw [e4_size]; kernel_rfl) (HZ.out.trans (e4_size ..).symm) (row_one _ _ _) ⟨fun h => (h rfl).elim, ?_⟩
    (try simp only [sI, sS, sZ])
    refine wpBut_done (by kernel_rfl) (NoPanic.normal ?_)
    replace M2 := Lib.hid ((M2.out.call hkW54).setRow_other (w.heap.size + 1 + 1) (e4 n8) (by omega))
    replace M3 := Lib.hid ((M3.out.call hkW54).setRow_other (w.heap.size + 1 + 1) (e4 n8) (by omega))
    replace M6 := Lib.hid ((M6.out.call hkW54).setRow_other (w.heap.size + 1 + 1) (e4 n8) (by omega))
    clear M4 M4N
    have M4 := Lib.hid (MZ.out.setRow (e4 n8)); clear MZ HZ
    replace HB := Lib.hid (below_setRow (held_next HB.out hkW54) (w.heap.size + 1 + 1) (e4 n8) (by omega))
    have hfin := Hpo.out n1 n2 n3 n4 n5 n6 n7 n8 Hn1r.out Hn2r.out Hn3r.out Hn4r.out hn5r hn6r hn7r hn8r
    have Hfin := Lib.hid hfin; clear hfin
    go_wp2_with fail
    exact bodyPost_ret (v := .agg (e4 n8)) (results_cell_row (t := 36) (by rfl) _ _ (w.heap.size + 1 + 1) _ _ _ rfl M4.out Try.underlying36 rfl (by rw [e4_size]; kernel_rfl)) rfl ⟨n8, hn8, Hfin.out, rfl, HB.out⟩
end Go.Proofs.Ytjiagjonlcadiaa
end
section
namespace Go.Proofs.Ytjiagjonlcadiaa
open Go.RowKit Go.Lib

theorem two_lt : 2 % PP < PP := Nat.mod_lt _ PP_pos
theorem pm2_lt : PP - 2 % PP < 2 ^ 255 := by decide +kernel
theorem pm2 : PP - 2 % PP = PP - 2 := by decide +kernel

set_option maxRecDepth 100000 in
set_option maxHeartbeats 2000000 in
theorem rover_any (a b : Nat) (ha : a < PP) (hb : b < PP) (w : World) :
    Calls Try.prog 43 #[.agg (r22 a), .agg (r22 b)] w fun en w' => en = .returned (.agg (r22 (a * pwm b (PP - 2) % PP))) ∧ Below w.heap.size w w' := by
  have h1 := fun w => rint_nn 2 (by omega) w
  have h2 := fun w => less_any PP (2 % PP) (Nat.le_of_lt two_lt) PP_lt w
  have h3 := fun w => rpow_any b (PP - 2 % PP) hb pm2_lt w
  rw [pm2] at h2 h3
  obtain ⟨t, ht⟩ : ∃ t, t = 2 % PP := ⟨_, rfl⟩
  obtain ⟨e, he⟩ : ∃ e, e = PP - 2 := ⟨_, rfl⟩
  rw [← ht] at h1 h2
  rw [← he] at h2 h3 ⊢
  have hy := pwm_lt b e
  obtain ⟨y, hyy⟩ : ∃ y, y = pwm b e := ⟨_, rfl⟩
  rw [← hyy] at h3 hy ⊢
  have h4 := fun w => rtimes_any a y ha hy w
  obtain ⟨r, hr⟩ : ∃ r, r = a * y % PP := ⟨_, rfl⟩
  rw [← hr] at h4 ⊢
  have H1 := Lib.hid h1; clear h1
  have H2 := Lib.hid h2; clear h2
  have H3 := Lib.hid h3; clear h3
  have H4 := Lib.hid h4; clear h4
  clear hr hyy hy he ht ha hb
  go_enter Try.func43, Try.ntmps43
  go_wp2_with fail
  refine wp_region_noPanic ?_
  refine wp_region_below 7 (by kernel_rfl) ?_
  intro W0 hW0
  have M0 := Lib.hid (show Has W0 w.heap.size (r22 a) 40 by rw [hW0]; exact ((Has.new _ _ _).alloc _).alloc _)
  have M1 := Lib.hid (show Has W0 (w.heap.size + 1) (r22 b) 40 by rw [hW0]; exact (Has.new1 _ _ _ _).alloc _)
  have M2 := Lib.hid (show HasN W0 (w.heap.size + 1 + 1) 22 40 by rw [hW0]; exact HasN.new2 _ _ _ _ _ 22 rfl)
  have HB := Lib.hid (show Below w.heap.size w W0 by rw [hW0]; exact below_3 _ _ _ _)
  clear hW0
  refine wpBut_take (i := 0) rfl (by kernel_rfl) (by kernel_rfl) (by kernel_rfl) (by kernel_rfl) (by kernel_rfl) (fun _ _ _ h => h) (yieldsIf_load_row (by rfl) 40 _ rfl (w.heap.size) rfl 40 (r22 a) (fun _ h => M0.out.below h M0.out.lt) Try.underlying40 rfl (by rw [r22_size]; kernel_rfl)) ((Below.refl _ _).drew) ?_
  (try simp only [Act.put]); (try simp only [List.setIfInBounds_toArray])
  refine wpBut_take (i := 1) rfl (by kernel_rfl) (by kernel_rfl) (by kernel_rfl) (by kernel_rfl) (by kernel_rfl) (fun _ _ _ h => h) (yieldsIf_load_row (by rfl) 40 _ rfl (w.heap.size + 1) rfl 40 (r22 b) (fun _ h => M1.out.below h M1.out.lt) Try.underlying40 rfl (by rw [r22_size]; kernel_rfl)) ((Below.refl _ _).drew) ?_
  (try simp only [Act.put]); (try simp only [List.setIfInBounds_toArray])
  refine wpBut_one (i := 2) (by kernel_rfl) rfl (fun K hK => ?_)
  go_simp
  go_at_call 82
  refine (prime_any _).mono ?_
  rintro e wW01 ⟨rfl, hb⟩
  have hkW01 := held_next (Below.refl _ _).drew hb
  refine hK.out _ _ (fun _ => hkW01) ?_
  clear hK K hb
  refine wpBut_one (i := 3) (by kernel_rfl) rfl (fun K hK => ?_)
  go_simp
  go_at_call 35
  refine (H1.out _).mono ?_
  rintro e wW02 ⟨rfl, hb⟩
  have hkW02 := held_next hkW01 hb
  refine hK.out _ _ (fun _ => hkW02) ?_
  clear hK K hb
  refine wpBut_one (i := 4) (by kernel_rfl) rfl (fun K hK => ?_)
  go_simp
  go_at_call 81
  refine (H2.out _).mono ?_
  rintro e wW03 ⟨rfl, hb⟩
  have hkW03 := held_next hkW02 hb
  refine hK.out _ _ (fun _ => hkW03) ?_
  clear hK K hb
  refine wpBut_one (i := 5) (by kernel_rfl) rfl (fun K hK => ?_)
  go_simp
  go_at_call 85
  refine (H3.out _).mono ?_
  rintro e wW04 ⟨rfl, hb⟩
  have hkW04 := held_next hkW03 hb
  refine hK.out _ _ (fun _ => hkW04) ?_
  clear hK K hb
  refine wpBut_one (i := 6) (by kernel_rfl) rfl (fun K hK => ?_)
  go_simp
  go_at_call 32
  refine (H4.out _).mono ?_
  rintro e wW05 ⟨rfl, hb⟩
  have hkW05 := held_next hkW04 hb
  refine hK.out _ _ (fun _ => hkW05) ?_
  clear hK K hb
  obtain ⟨Z, hZ, mZ⟩ := M2.out.below hkW05 M2.out.lt
  have MZ := Lib.hid mZ; clear mZ
  have HZ := Lib.hid hZ; clear hZ
  refine wpBut_one (i := 7) (by kernel_rfl) rfl (fun K hK => ?_)
  rw [if_pos (by rfl)]
  refine wp_store_row 40 _ _ rfl (w.heap.size + 1 + 1) _ rfl rfl 40 Z MZ.out (by rw [r22_size]; kernel_rfl) (HZ.out.trans (r22_size _).symm) (row_one _ _ _) ?_
  refine hK.out _ _ (fun h => (h rfl).elim) ?_
  clear hK K
  (try simp only [Act.put]); (try simp only [List.setIfInBounds_toArray])
  refine wpBut_done (by kernel_rfl) (NoPanic.normal ?_)
  go_wp2_with fail
  exact bodyPost_ret (v := .agg (r22 r)) (results_cell_row (t := 40) (by rfl) _ _ (w.heap.size + 1 + 1) _ _ _ rfl (MZ.out.setRow _) Try.underlying40 rfl (by rw [r22_size]; kernel_rfl)) rfl ⟨rfl, below_setRow (HB.out.trans (hkW05.mono HB.out.size)) _ _ (by omega)⟩

end Go.Proofs.Ytjiagjonlcadiaa
end
section
namespace Go.Proofs.Ytjiagjonlcadiaa
open Go.RowKit Go.Lib

/-- the reference's root: of a number a -/
def rt1 (a : Nat) : Nat := pwm a ((PP + 3) / 2 / 2 / 2)
def rti : Nat := pwm (2 % PP) ((PP - 1 % PP) / 2 / 2)
def rt2 (a : Nat) : Nat := if rt1 a * rt1 a % PP = a then rt1 a else rt1 a * rti % PP
def rtok (a : Nat) : Bool := decide (rt2 a * rt2 a % PP = a)
def rt3 (a : Nat) : Nat := if rtok a then (if rt2 a % 2 = 1 then PP - rt2 a else rt2 a) else 0

theorem p3_row : row .i64 22 (upd (dg 4096 PP) 0 4080) = r22 (PP + 3) := by
  refine row_ext _ _ _ _ ?_
  have : (List.range 22).all (fun i => upd (dg 4096 PP) 0 4080 i == dg 4096 (PP + 3) i) = true := by decide +kernel
  intro i hi
  simpa using List.all_eq_true.1 this i (by simpa using hi)
theorem pp0 : dg 4096 PP 0 = 4077 := by decide +kernel
theorem p3_lt : PP + 3 < 4096 ^ 22 := by decide +kernel
theorem r22_eq (x y : Nat) (hx : x < 4096 ^ 22) (hy : y < 4096 ^ 22) (w : World) : (Op.equalIn 10000 40 (.agg (r22 x)) (.agg (r22 y))).run Try.prog w = .ok (decide (x = y)) w := by
  rw [← eqr_dg 4096 22 x y hx hy]
  exact run_equalIn_row w 9998 40 3 22 .i64 Try.underlying40 Try.underlying3 sz_int _ _
theorem ei_lt : (PP - 1 % PP) / 2 / 2 < 2 ^ 255 := by decide +kernel
theorem half_lt (n : Nat) (h : n < 4096 ^ 22) : n / 2 < 4096 ^ 22 := Nat.lt_of_le_of_lt (Nat.div_le_self _ _) h
theorem e3_lt : (PP + 3) / 2 / 2 / 2 < 2 ^ 255 := by decide +kernel

theorem ent32 : Enters Try.prog 32 := ⟨_, Try.func32, by kernel_rfl, by kernel_rfl⟩
theorem ent35 : Enters Try.prog 35 := ⟨_, Try.func35, by kernel_rfl, by kernel_rfl⟩
theorem ent81 : Enters Try.prog 81 := ⟨_, Try.func81, by kernel_rfl, by kernel_rfl⟩
theorem ent82 : Enters Try.prog 82 := ⟨_, Try.func82, by kernel_rfl, by kernel_rfl⟩
theorem ent85 : Enters Try.prog 85 := ⟨_, Try.func85, by kernel_rfl, by kernel_rfl⟩
theorem ent86 : Enters Try.prog 86 := ⟨_, Try.func86, by kernel_rfl, by kernel_rfl⟩
theorem r2_cases (a : Nat) (h : rt1 a * rt1 a % PP = a) : rt2 a = rt1 a := by unfold rt2; rw [if_pos h]
theorem r2_other (a : Nat) (h : ¬ rt1 a * rt1 a % PP = a) : rt2 a = rt1 a * rti % PP := by unfold rt2; rw [if_neg h]
theorem r3_odd (a : Nat) (h : rt2 a * rt2 a % PP = a) (ho : rt2 a % 2 = 1) : rt3 a = PP - rt2 a ∧ rtok a = true := by
  have h1 : rtok a = true := by unfold rtok; exact decide_eq_true h
  refine ⟨?_, h1⟩
  unfold rt3
  rw [h1, if_pos rfl, if_pos ho]
theorem r3_even (a : Nat) (h : rt2 a * rt2 a % PP = a) (ho : ¬ rt2 a % 2 = 1) : rt3 a = rt2 a ∧ rtok a = true := by
  have h1 : rtok a = true := by unfold rtok; exact decide_eq_true h
  refine ⟨?_, h1⟩
  unfold rt3
  rw [h1, if_pos rfl, if_neg ho]
theorem r3_non (a : Nat) (h : ¬ rt2 a * rt2 a % PP = a) : rt3 a = 0 ∧ rtok a = false := by
  have h1 : rtok a = false := by unfold rtok; exact decide_eq_false h
  refine ⟨?_, h1⟩
  unfold rt3
  rw [h1, if_neg (by decide)]
theorem r22_same (x : Nat) (hx : x < 4096 ^ 22) (w : World) : (Op.equalIn 10000 40 (.agg (r22 x)) (.agg (r22 x))).run Try.prog w = .ok true w := by
  rw [r22_eq x x hx hx w, decide_eq_true rfl]
theorem r22_other (x y : Nat) (hx : x < 4096 ^ 22) (hy : y < 4096 ^ 22) (h : ¬ x = y) (w : World) : (Op.equalIn 10000 40 (.agg (r22 x)) (.agg (r22 y))).run Try.prog w = .ok false w := by
  rw [r22_eq x y hx hy w, decide_eq_false h]
theorem PPr_22 (x : Nat) (h : x < PP) : x < 4096 ^ 22 := Nat.lt_trans h PP_lt
theorem dg0_odd (r : Nat) (h : r % 2 = 1) : (dg 4096 r 0 % 2 == 1) = true := by
  have hz0 : dg 4096 r 0 % 2 = ((r % 2 : Nat) : Int) := by unfold dg; rw [Nat.pow_zero, Nat.div_one]; omega
  rw [hz0, h]; rfl
theorem dg0_even (r : Nat) (h : ¬ r % 2 = 1) : (dg 4096 r 0 % 2 == 1) = false := by
  have hz0 : dg 4096 r 0 % 2 = ((r % 2 : Nat) : Int) := by unfold dg; rw [Nat.pow_zero, Nat.div_one]; omega
  rw [hz0, show r % 2 = 0 by omega]; rfl

set_option maxRecDepth 100000 in
set_option linter.unusedSimpArgs false in
set_option maxHeartbeats 4000000 in
theorem rroot_any (a : Nat) (ha : a < PP) (w : World) :
    Calls Try.prog 45 #[.agg (r22 a)] w fun en w' => en = .returned (.tuple #[.agg (r22 (rt3 a)), .bool (rtok a)]) ∧ Below w.heap.size w w' := by
  have hp3r := p3_row
  have hp0 := pp0
  have hh1 := fun w => half_any (PP + 3) p3_lt w
  have hh2 := fun w => half_any ((PP + 3) / 2) (half_lt _ p3_lt) w
  have hh3 := fun w => half_any ((PP + 3) / 2 / 2) (half_lt _ (half_lt _ p3_lt)) w
  have hpw := fun w => rpow_any a ((PP + 3) / 2 / 2 / 2) ha e3_lt w
  have hr1 : rt1 a < PP := pwm_lt _ _
  rw [show pwm a ((PP + 3) / 2 / 2 / 2) = rt1 a from rfl] at hpw
  obtain ⟨q, hq⟩ : ∃ q, q = PP + 3 := ⟨_, rfl⟩
  rw [← hq] at hp3r hh1 hh2 hh3 hpw
  obtain ⟨q1, hq1⟩ : ∃ x, x = q / 2 := ⟨_, rfl⟩
  rw [← hq1] at hh1 hh2 hh3 hpw
  obtain ⟨q2, hq2⟩ : ∃ x, x = q1 / 2 := ⟨_, rfl⟩
  rw [← hq2] at hh2 hh3 hpw
  obtain ⟨q3, hq3⟩ : ∃ x, x = q2 / 2 := ⟨_, rfl⟩
  rw [← hq3] at hh3 hpw
  obtain ⟨r1, hrr⟩ : ∃ x, x = rt1 a := ⟨_, rfl⟩
  rw [← hrr] at hpw hr1
  have Hp3r := Lib.hid hp3r; clear hp3r
  have Hp0 := Lib.hid hp0; clear hp0
  have Hh1 := Lib.hid hh1; clear hh1
  have Hh2 := Lib.hid hh2; clear hh2
  have Hh3 := Lib.hid hh3; clear hh3
  have Hpw := Lib.hid hpw; clear hpw
  have Hr1 := Lib.hid hr1; clear hr1
  have Hrr := Lib.hid hrr; clear hrr
  clear hq hq1 hq2 hq3
  go_enter Try.func45, Try.ntmps45
  go_wp2_with fail
  refine (prime_any _).mono ?_
  rintro en w1 ⟨rfl, b1⟩
  have m0 := ((Has.new w (r22 a) 40).alloc (.cells (#[.int .i64 0, .int .i64 0, .int .i64 0, .int .i64 0, .int .i64 0, .int .i64 0, .int .i64 0, .int .i64 0, .int .i64 0, .int .i64 0, .int .i64 0, .int .i64 0, .int .i64 0, .int .i64 0, .int .i64 0, .int .i64 0, .int .i64 0, .int .i64 0, .int .i64 0, .int .i64 0, .int .i64 0, .int .i64 0] : Array Value) 40)).call b1
  have m1 := (HasN.new1 w (.cells (r22 a) 40) (#[.int .i64 0, .int .i64 0, .int .i64 0, .int .i64 0, .int .i64 0, .int .i64 0, .int .i64 0, .int .i64 0, .int .i64 0, .int .i64 0, .int .i64 0, .int .i64 0, .int .i64 0, .int .i64 0, .int .i64 0, .int .i64 0, .int .i64 0, .int .i64 0, .int .i64 0, .int .i64 0, .int .i64 0, .int .i64 0] : Array Value) 40 22 rfl).call b1
  have hB := held_next (below_2 w (.cells (r22 a) 40) (.cells (#[.int .i64 0, .int .i64 0, .int .i64 0, .int .i64 0, .int .i64 0, .int .i64 0, .int .i64 0, .int .i64 0, .int .i64 0, .int .i64 0, .int .i64 0, .int .i64 0, .int .i64 0, .int .i64 0, .int .i64 0, .int .i64 0, .int .i64 0, .int .i64 0, .int .i64 0, .int .i64 0, .int .i64 0, .int .i64 0] : Array Value) 40)) b1
  clear b1
  have hlt1 := m1.lt
  obtain ⟨Z, hZ, mz⟩ := HasN.new w1 (#[.int .i64 0, .int .i64 0, .int .i64 0, .int .i64 0, .int .i64 0, .int .i64 0, .int .i64 0, .int .i64 0, .int .i64 0, .int .i64 0, .int .i64 0, .int .i64 0, .int .i64 0, .int .i64 0, .int .i64 0, .int .i64 0, .int .i64 0, .int .i64 0, .int .i64 0, .int .i64 0, .int .i64 0, .int .i64 0] : Array Value) 40 22 rfl
  have q0 := (m0.alloc (.cells (#[.int .i64 0, .int .i64 0, .int .i64 0, .int .i64 0, .int .i64 0, .int .i64 0, .int .i64 0, .int .i64 0, .int .i64 0, .int .i64 0, .int .i64 0, .int .i64 0, .int .i64 0, .int .i64 0, .int .i64 0, .int .i64 0, .int .i64 0, .int .i64 0, .int .i64 0, .int .i64 0, .int .i64 0, .int .i64 0] : Array Value) 40)).setRow_other w1.heap.size (r22 PP) (by omega)
  have qq1 := (m1.alloc (.cells (#[.int .i64 0, .int .i64 0, .int .i64 0, .int .i64 0, .int .i64 0, .int .i64 0, .int .i64 0, .int .i64 0, .int .i64 0, .int .i64 0, .int .i64 0, .int .i64 0, .int .i64 0, .int .i64 0, .int .i64 0, .int .i64 0, .int .i64 0, .int .i64 0, .int .i64 0, .int .i64 0, .int .i64 0, .int .i64 0] : Array Value) 40)).setRow_other w1.heap.size (r22 PP) (by omega)
  have qq4 := mz.setRow (r22 PP)
  have hB2 := below_setRow (hB.alloc hB.size (.cells (#[.int .i64 0, .int .i64 0, .int .i64 0, .int .i64 0, .int .i64 0, .int .i64 0, .int .i64 0, .int .i64 0, .int .i64 0, .int .i64 0, .int .i64 0, .int .i64 0, .int .i64 0, .int .i64 0, .int .i64 0, .int .i64 0, .int .i64 0, .int .i64 0, .int .i64 0, .int .i64 0, .int .i64 0, .int .i64 0] : Array Value) 40)) w1.heap.size (r22 PP) hB.size
  have h1 := qq4.cell 0 (by omega)
  have hfz := qq4.frozen 0
  rw [Hp0.out] at h1
  have p4 := qq4.set 0 4080
  rw [Hp3r.out] at p4
  have p0 := q0.other ⟨w1.heap.size, 0, none⟩ (.int .i64 4080) (by simp <;> omega)
  have p1 := qq1.other ⟨w1.heap.size, 0, none⟩ (.int .i64 4080) (by simp <;> omega)
  have hB3 := hB2.setCell (p := ⟨w1.heap.size, 0, none⟩) (show w.heap.size ≤ w1.heap.size by omega) (.int .i64 4080)
  clear q0 qq1 hB hB2 m0 m1
  have Mz := Lib.hid mz; clear mz
  have HZ := Lib.hid hZ; clear hZ
  have P0 := Lib.hid p0; clear p0
  have P1 := Lib.hid p1; clear p1
  have P4 := Lib.hid p4; clear p4
  have HB3 := Lib.hid hB3; clear hB3
  have Qq4 := Lib.hid qq4; clear qq4
  go_wp2_with (refine wpList_store_row rfl 40 _ _ rfl (w1.heap.size) _ rfl rfl 40 Z Mz.out (by rw [r22_size]; kernel_rfl) (HZ.out.trans (r22_size _).symm) (row_one _ _ _) ?_)
  clear Mz HZ Qq4 h1 hfz
  refine wp_region_meet (α := Nat) (fun W0 x w' => W0.heap.size ≤ x ∧ Has w' x (r22 r1) 40 ∧ Below W0.heap.size W0 w') (fun ac x => (((((((ac.put (some 11) (.agg (r22 a))).put (some 12) (.agg (r22 q))).put (some 13) (.agg (r22 q1))).put (some 14) (.agg (r22 q2))).put (some 15) (.agg (r22 q3))).put (some 16) (.agg (r22 r1))).put (some 5) (.pointer (some ⟨x, 0, none⟩)))) ?_ ?_
  · intro Q' hQ'
    refine wp_region_noPanic ?_
    refine wp_region_go 99 8 #[ff,ff,ff,ff,ff,ff,ff,ff] (by kernel_rfl) rfl rfl ?_
    intro W1 hW1
    rw [← hW1] at hQ'
    simp only [Act.put, List.setIfInBounds_toArray, List.set_cons_succ, List.set_cons_zero] at hQ'
    have HQ := Lib.hid hQ'; clear hQ'
    rw [← hW1] at P0 P1 P4 HB3
    clear hW1
    refine go_take2 0 11 #[tt,ff,ff,ff,ff,ff,ff,ff] rfl rfl rfl (by kernel_rfl) (yieldsIf_load_row (by rfl) 40 _ rfl (w.heap.size) rfl 40 (r22 a) (fun _ h => P0.out.below h P0.out.lt) Try.underlying40 rfl (by rw [r22_size]; kernel_rfl)) ((below_dr W1)) ?_
    (try simp only [sI, sS, sZ])
    refine go_take2 1 12 #[tt,tt,ff,ff,ff,ff,ff,ff] rfl rfl rfl (by kernel_rfl) (yieldsIf_load_row (by rfl) 40 _ rfl (w1.heap.size) rfl 40 (r22 q) (fun _ h => P4.out.below h P4.out.lt) Try.underlying40 rfl (by rw [r22_size]; kernel_rfl)) ((below_dr W1)) ?_
    (try simp only [sI, sS, sZ])
    refine wpBut_r2 (i := 2) (j := 6) (by kernel_rfl) ?_ ?_
    refine go_call 2 13 #[tt,tt,tt,ff,ff,ff,ff,ff] rfl rfl rfl (by rfl) rfl rfl (by rfl) ent86 (by rfl) (Hh1.out _) ?_
    rintro e wW11 ⟨rfl, hb⟩
    have hkW11 := held_next (below_dr W1) hb
    refine ⟨_, rfl, fun _ => hkW11, ?_⟩
    clear hb
    (try simp only [sI, sS, sZ])
    refine wpBut_r2 (i := 3) (j := 6) (by kernel_rfl) ?_ ?_
    refine go_call 3 14 #[tt,tt,tt,tt,ff,ff,ff,ff] rfl rfl rfl (by rfl) rfl rfl (by rfl) ent86 (by rfl) (Hh2.out _) ?_
    rintro e wW12 ⟨rfl, hb⟩
    have hkW12 := held_next hkW11 hb
    refine ⟨_, rfl, fun _ => hkW12, ?_⟩
    clear hb
    (try simp only [sI, sS, sZ])
    refine wpBut_r2 (i := 4) (j := 6) (by kernel_rfl) ?_ ?_
    refine go_call 4 15 #[tt,tt,tt,tt,tt,ff,ff,ff] rfl rfl rfl (by rfl) rfl rfl (by rfl) ent86 (by rfl) (Hh3.out _) ?_
    rintro e wW13 ⟨rfl, hb⟩
    have hkW13 := held_next hkW12 hb
    refine ⟨_, rfl, fun _ => hkW13, ?_⟩
    clear hb
    (try simp only [sI, sS, sZ])
    refine wpBut_r2 (i := 5) (j := 6) (by kernel_rfl) ?_ ?_
    refine go_call 5 16 #[tt,tt,tt,tt,tt,tt,ff,ff] rfl rfl rfl (by rfl) rfl rfl (by rfl) ent85 (by rfl) (Hpw.out _) ?_
    rintro e wW14 ⟨rfl, hb⟩
    have hkW14 := held_next hkW13 hb
    refine ⟨_, rfl, fun _ => hkW14, ?_⟩
    clear hb
    (try simp only [sI, sS, sZ])
    refine wpBut_r1 (i := 6) (by kernel_rfl) ?_
    refine go_alloc 6 5 #[tt,tt,tt,tt,tt,tt,tt,ff] rfl rfl rfl (by rfl) 40 rfl _ al40 ?_
    intro wW15 hw2
    have hkW15 := (hkW14).alloc (hkW14).size (.cells z40 40)
    rw [← hw2] at hkW15
    have MA6 := Lib.hid (HasN.new (wW14) z40 40 22 (by kernel_rfl))
    rw [← hw2] at MA6
    have HA6 := Lib.hid (show W1.heap.size ≤ _ from (hkW14).size)
    clear hw2
    refine ⟨fun _ => hkW15, ?_⟩
    (try simp only [sI, sS, sZ])
    refine wpBut_r1 (i := 7) (by kernel_rfl) ?_
    obtain ⟨Zq, hZ, mZ⟩ := MA6.out
    refine go_store2 7 #[tt,tt,tt,tt,tt,tt,tt,tt] rfl rfl rfl (by rfl) 40 _ _ rfl _ _ rfl rfl 40 Zq mZ (by rw [r22_size]; kernel_rfl) (hZ.trans (r22_size ..).symm) (row_one _ _ _) ?_
    intro wW16 hw2
    have hkW16 := below_setRow (hkW15) _ (r22 r1) HA6.out
    rw [← hw2] at hkW16
    clear MA6
    have MA6 := Lib.hid (mZ.setRow (r22 r1))
    rw [← hw2] at MA6; clear mZ hZ hw2
    refine ⟨fun _ => hkW16, ?_⟩
    (try simp only [sI, sS, sZ])
    exact wpBut_done (by kernel_rfl) (NoPanic.normal (HQ.out (_) _ ⟨HA6.out, MA6.out, (hkW16)⟩))
    refine go_alloc 6 5 #[tt,tt,tt,tt,tt,ff,tt,ff] rfl rfl rfl (by rfl) 40 rfl _ al40 ?_
    intro wW14 hw2
    have hkW14 := (hkW13).alloc (hkW13).size (.cells z40 40)
    rw [← hw2] at hkW14
    have MA6 := Lib.hid (HasN.new (wW13) z40 40 22 (by kernel_rfl))
    rw [← hw2] at MA6
    have HA6 := Lib.hid (show W1.heap.size ≤ _ from (hkW13).size)
    clear hw2
    refine ⟨fun _ => hkW14, ?_⟩
    (try simp only [sI, sS, sZ])
    refine wpBut_r1 (i := 5) (by kernel_rfl) ?_
    refine go_call 5 16 #[tt,tt,tt,tt,tt,tt,tt,ff] rfl rfl rfl (by rfl) rfl rfl (by rfl) ent85 (by rfl) (Hpw.out _) ?_
    rintro e wW15 ⟨rfl, hb⟩
    have hkW15 := held_next hkW14 hb
    replace MA6 := Lib.hid (MA6.out.call hb)
    refine ⟨_, rfl, fun _ => hkW15, ?_⟩
    clear hb
    (try simp only [sI, sS, sZ])
    refine wpBut_r1 (i := 7) (by kernel_rfl) ?_
    obtain ⟨Zq, hZ, mZ⟩ := MA6.out
    refine go_store2 7 #[tt,tt,tt,tt,tt,tt,tt,tt] rfl rfl rfl (by rfl) 40 _ _ rfl _ _ rfl rfl 40 Zq mZ (by rw [r22_size]; kernel_rfl) (hZ.trans (r22_size ..).symm) (row_one _ _ _) ?_
    intro wW16 hw2
    have hkW16 := below_setRow (hkW15) _ (r22 r1) HA6.out
    rw [← hw2] at hkW16
    clear MA6
    have MA6 := Lib.hid (mZ.setRow (r22 r1))
    rw [← hw2] at MA6; clear mZ hZ hw2
    refine ⟨fun _ => hkW16, ?_⟩
    (try simp only [sI, sS, sZ])
    exact wpBut_done (by kernel_rfl) (NoPanic.normal (HQ.out (_) _ ⟨HA6.out, MA6.out, (hkW16)⟩))
    refine go_alloc 6 5 #[tt,tt,tt,tt,ff,ff,tt,ff] rfl rfl rfl (by rfl) 40 rfl _ al40 ?_
    intro wW13 hw2
    have hkW13 := (hkW12).alloc (hkW12).size (.cells z40 40)
    rw [← hw2] at hkW13
    have MA6 := Lib.hid (HasN.new (wW12) z40 40 22 (by kernel_rfl))
    rw [← hw2] at MA6
    have HA6 := Lib.hid (show W1.heap.size ≤ _ from (hkW12).size)
    clear hw2
    refine ⟨fun _ => hkW13, ?_⟩
    (try simp only [sI, sS, sZ])
    refine wpBut_r1 (i := 4) (by kernel_rfl) ?_
    refine go_call 4 15 #[tt,tt,tt,tt,tt,ff,tt,ff] rfl rfl rfl (by rfl) rfl rfl (by rfl) ent86 (by rfl) (Hh3.out _) ?_
    rintro e wW14 ⟨rfl, hb⟩
    have hkW14 := held_next hkW13 hb
    replace MA6 := Lib.hid (MA6.out.call hb)
    refine ⟨_, rfl, fun _ => hkW14, ?_⟩
    clear hb
    (try simp only [sI, sS, sZ])
    refine wpBut_r1 (i := 5) (by kernel_rfl) ?_
    refine go_call 5 16 #[tt,tt,tt,tt,tt,tt,tt,ff] rfl rfl rfl (by rfl) rfl rfl (by rfl) ent85 (by rfl) (Hpw.out _) ?_
    rintro e wW15 ⟨rfl, hb⟩
    have hkW15 := held_next hkW14 hb
    replace MA6 := Lib.hid (MA6.out.call hb)
    refine ⟨_, rfl, fun _ => hkW15, ?_⟩
    clear hb
    (try simp only [sI, sS, sZ])
    refine wpBut_r1 (i := 7) (by kernel_rfl) ?_
    obtain ⟨Zq, hZ, mZ⟩ := MA6.out
    refine go_store2 7 #[tt,tt,tt,tt,tt,tt,tt,tt] rfl rfl rfl (by rfl) 40 _ _ rfl _ _ rfl rfl 40 Zq mZ (by rw [r22_size]; kernel_rfl) (hZ.trans (r22_size ..).symm) (row_one _ _ _) ?_
    intro wW16 hw2
    have hkW16 := below_setRow (hkW15) _ (r22 r1) HA6.out
    rw [← hw2] at hkW16
    clear MA6
    have MA6 := Lib.hid (mZ.setRow (r22 r1))
    rw [← hw2] at MA6; clear mZ hZ hw2
    refine ⟨fun _ => hkW16, ?_⟩
    (try simp only [sI, sS, sZ])
    exact wpBut_done (by kernel_rfl) (NoPanic.normal (HQ.out (_) _ ⟨HA6.out, MA6.out, (hkW16)⟩))
    refine go_alloc 6 5 #[tt,tt,tt,ff,ff,ff,tt,ff] rfl rfl rfl (by rfl) 40 rfl _ al40 ?_
    intro wW12 hw2
    have hkW12 := (hkW11).alloc (hkW11).size (.cells z40 40)
    rw [← hw2] at hkW12
    have MA6 := Lib.hid (HasN.new (wW11) z40 40 22 (by kernel_rfl))
    rw [← hw2] at MA6
    have HA6 := Lib.hid (show W1.heap.size ≤ _ from (hkW11).size)
    clear hw2
    refine ⟨fun _ => hkW12, ?_⟩
    (try simp only [sI, sS, sZ])
    refine wpBut_r1 (i := 3) (by kernel_rfl) ?_
    refine go_call 3 14 #[tt,tt,tt,tt,ff,ff,tt,ff] rfl rfl rfl (by rfl) rfl rfl (by rfl) ent86 (by rfl) (Hh2.out _) ?_
    rintro e wW13 ⟨rfl, hb⟩
    have hkW13 := held_next hkW12 hb
    replace MA6 := Lib.hid (MA6.out.call hb)
    refine ⟨_, rfl, fun _ => hkW13, ?_⟩
    clear hb
    (try simp only [sI, sS, sZ])
    refine wpBut_r1 (i := 4) (by kernel_rfl) ?_
    refine go_call 4 15 #[tt,tt,tt,tt,tt,ff,tt,ff] rfl rfl rfl (by rfl) rfl rfl (by rfl) ent86 (by rfl) (Hh3.out _) ?_
    rintro e wW14 ⟨rfl, hb⟩
    have hkW14 := held_next hkW13 hb
    replace MA6 := Lib.hid (MA6.out.call hb)
    refine ⟨_, rfl, fun _ => hkW14, ?_⟩
    clear hb
    (try simp only [sI, sS, sZ])
    refine wpBut_r1 (i := 5) (by kernel_rfl) ?_
    refine go_call 5 16 #[tt,tt,tt,tt,tt,tt,tt,ff] rfl rfl rfl (by rfl) rfl rfl (by rfl) ent85 (by rfl) (Hpw.out _) ?_
    rintro e wW15 ⟨rfl, hb⟩
    have hkW15 := held_next hkW14 hb
    replace MA6 := Lib.hid (MA6.out.call hb)
    refine ⟨_, rfl, fun _ => hkW15, ?_⟩
    clear hb
    (try simp only [sI, sS, sZ])
    refine wpBut_r1 (i := 7) (by kernel_rfl) ?_
    obtain ⟨Zq, hZ, mZ⟩ := MA6.out
    refine go_store2 7 #[tt,tt,tt,tt,tt,tt,tt,tt] rfl rfl rfl (by rfl) 40 _ _ rfl _ _ rfl rfl 40 Zq mZ (by rw [r22_size]; kernel_rfl) (hZ.trans (r22_size ..).symm) (row_one _ _ _) ?_
    intro wW16 hw2
    have hkW16 := below_setRow (hkW15) _ (r22 r1) HA6.out
    rw [← hw2] at hkW16
    clear MA6
    have MA6 := Lib.hid (mZ.setRow (r22 r1))
    rw [← hw2] at MA6; clear mZ hZ hw2
    refine ⟨fun _ => hkW16, ?_⟩
    (try simp only [sI, sS, sZ])
    exact wpBut_done (by kernel_rfl) (NoPanic.normal (HQ.out (_) _ ⟨HA6.out, MA6.out, (hkW16)⟩))
    refine go_alloc 6 5 #[tt,tt,ff,ff,ff,ff,tt,ff] rfl rfl rfl (by rfl) 40 rfl _ al40 ?_
    intro wW11 hw2
    have hkW11 := ((below_dr W1)).alloc ((below_dr W1)).size (.cells z40 40)
    rw [← hw2] at hkW11
    have MA6 := Lib.hid (HasN.new (W1.drew) z40 40 22 (by kernel_rfl))
    rw [← hw2] at MA6
    have HA6 := Lib.hid (show W1.heap.size ≤ _ from ((below_dr W1)).size)
    clear hw2
    refine ⟨fun _ => hkW11, ?_⟩
    (try simp only [sI, sS, sZ])
    refine wpBut_r1 (i := 2) (by kernel_rfl) ?_
    refine go_call 2 13 #[tt,tt,tt,ff,ff,ff,tt,ff] rfl rfl rfl (by rfl) rfl rfl (by rfl) ent86 (by rfl) (Hh1.out _) ?_
    rintro e wW12 ⟨rfl, hb⟩
    have hkW12 := held_next hkW11 hb
    replace MA6 := Lib.hid (MA6.out.call hb)
    refine ⟨_, rfl, fun _ => hkW12, ?_⟩
    clear hb
    (try simp only [sI, sS, sZ])
    refine wpBut_r1 (i := 3) (by kernel_rfl) ?_
    refine go_call 3 14 #[tt,tt,tt,tt,ff,ff,tt,ff] rfl rfl rfl (by rfl) rfl rfl (by rfl) ent86 (by rfl) (Hh2.out _) ?_
    rintro e wW13 ⟨rfl, hb⟩
    have hkW13 := held_next hkW12 hb
    replace MA6 := Lib.hid (MA6.out.call hb)
    refine ⟨_, rfl, fun _ => hkW13, ?_⟩
    clear hb
    (try simp only [sI, sS, sZ])
    refine wpBut_r1 (i := 4) (by kernel_rfl) ?_
    refine go_call 4 15 #[tt,tt,tt,tt,tt,ff,tt,ff] rfl rfl rfl (by rfl) rfl rfl (by rfl) ent86 (by rfl) (Hh3.out _) ?_
    rintro e wW14 ⟨rfl, hb⟩
    have hkW14 := held_next hkW13 hb
    replace MA6 := Lib.hid (MA6.out.call hb)
    refine ⟨_, rfl, fun _ => hkW14, ?_⟩
    clear hb
    (try simp only [sI, sS, sZ])
    refine wpBut_r1 (i := 5) (by kernel_rfl) ?_
    refine go_call 5 16 #[tt,tt,tt,tt,tt,tt,tt,ff] rfl rfl rfl (by rfl) rfl rfl (by rfl) ent85 (by rfl) (Hpw.out _) ?_
    rintro e wW15 ⟨rfl, hb⟩
    have hkW15 := held_next hkW14 hb
    replace MA6 := Lib.hid (MA6.out.call hb)
    refine ⟨_, rfl, fun _ => hkW15, ?_⟩
    clear hb
    (try simp only [sI, sS, sZ])
    refine wpBut_r1 (i := 7) (by kernel_rfl) ?_
    obtain ⟨Zq, hZ, mZ⟩ := MA6.out
    refine go_store2 7 #[tt,tt,tt,tt,tt,tt,tt,tt] rfl rfl rfl (by rfl) 40 _ _ rfl _ _ rfl rfl 40 Zq mZ (by rw [r22_size]; kernel_rfl) (hZ.trans (r22_size ..).symm) (row_one _ _ _) ?_
    intro wW16 hw2
    have hkW16 := below_setRow (hkW15) _ (r22 r1) HA6.out
    rw [← hw2] at hkW16
    clear MA6
    have MA6 := Lib.hid (mZ.setRow (r22 r1))
    rw [← hw2] at MA6; clear mZ hZ hw2
    refine ⟨fun _ => hkW16, ?_⟩
    (try simp only [sI, sS, sZ])
    exact wpBut_done (by kernel_rfl) (NoPanic.normal (HQ.out (_) _ ⟨HA6.out, MA6.out, (hkW16)⟩))
  · rintro W1 B5 vw1 hW1 ⟨hBq0, mBq0, hbw⟩
    simp only [Act.put, List.setIfInBounds_toArray, List.set_cons_succ, List.set_cons_zero] at  hBq0  mBq0 ⊢
    rw [← hW1] at P0 P1 P4 HB3
    clear hW1
    have hltP0_1 := P0.out.lt
    have hltP1_1 := P1.out.lt
    have hltP4_1 := P4.out.lt
    replace P0 := Lib.hid (P0.out.call hbw)
    replace P1 := Lib.hid (P1.out.call hbw)
    replace P4 := Lib.hid (P4.out.call hbw)
    replace HB3 := Lib.hid (held_next HB3.out hbw)
    have P5 := Lib.hid mBq0; clear mBq0
    clear hbw
    clear P4
    repeat ((fail_if_success (with_reducible (show wpList _ _ _ _ _ _))); go_step)
    have ha22 := PPr_22 a ha
    have hz0 := zero22
    have Ha22 := Lib.hid ha22; clear ha22
    have Hz0 := Lib.hid hz0; clear hz0
    by_cases c1 : rt1 a * rt1 a % PP = a
    · have hk : r1 = rt2 a := Hrr.out.trans (r2_cases a c1).symm
      have ht := fun w => rtimes_any r1 r1 Hr1.out Hr1.out w
      rw [show r1 * r1 % PP = a by rw [Hrr.out]; exact c1] at ht
      have hl2 := Hr1.out
      have heq := fun w => r22_same a Ha22.out w
      have Ht := Lib.hid ht; clear ht
      have Hk := Lib.hid hk; clear hk
      have Hl2 := Lib.hid hl2; clear hl2
      refine wp_region_noPanic ?_
      refine wp_region_go 99 5 #[ff,ff,ff,ff,ff] (by kernel_rfl) rfl rfl ?_
      intro W2 hW2
      rw [← hW2] at P0 P1 P5 HB3
      clear hW2
      refine go_take2 0 17 #[tt,ff,ff,ff,ff] rfl rfl rfl (by kernel_rfl) (yieldsIf_load_row (by rfl) 40 _ rfl (B5) rfl 40 (r22 r1) (fun _ h => P5.out.below h P5.out.lt) Try.underlying40 rfl (by rw [r22_size]; kernel_rfl)) ((below_dr W2)) ?_
      (try simp only [sI, sS, sZ])
      refine go_take2 1 18 #[tt,tt,ff,ff,ff] rfl rfl rfl (by kernel_rfl) (yieldsIf_load_row (by rfl) 40 _ rfl (B5) rfl 40 (r22 r1) (fun _ h => P5.out.below h P5.out.lt) Try.underlying40 rfl (by rw [r22_size]; kernel_rfl)) ((below_dr W2)) ?_
      (try simp only [sI, sS, sZ])
      refine go_take2 3 20 #[tt,tt,ff,tt,ff] rfl rfl rfl (by kernel_rfl) (yieldsIf_load_row (by rfl) 40 _ rfl (w.heap.size) rfl 40 (r22 a) (fun _ h => P0.out.below h P0.out.lt) Try.underlying40 rfl (by rw [r22_size]; kernel_rfl)) ((below_dr W2)) ?_
      (try simp only [sI, sS, sZ])
      refine wpBut_r1 (i := 2) (by kernel_rfl) ?_
      refine go_call 2 19 #[tt,tt,tt,tt,ff] rfl rfl rfl (by rfl) rfl rfl (by rfl) ent32 (by rfl) (Ht.out _) ?_
      rintro e wW21 ⟨rfl, hb⟩
      have hkW21 := held_next (below_dr W2) hb
      refine ⟨_, rfl, fun _ => hkW21, ?_⟩
      clear hb
      (try simp only [sI, sS, sZ])
      refine go_take2 4 21 #[tt,tt,tt,tt,tt] (v := ?uv1) rfl rfl rfl (by kernel_rfl) (Or.inl ⟨by rfl, ?uy1⟩) (hkW21) ?urest1
      case uy1 => (intro _ _; go_simp; try with_reducible rfl)
      (try simp only [sI, sS, sZ])
      refine wpBut_done (by kernel_rfl) (NoPanic.normal ?_)
      replace P0 := Lib.hid (P0.out.call hkW21)
      replace P1 := Lib.hid (P1.out.call hkW21)
      replace P5 := Lib.hid (P5.out.call hkW21)
      replace HB3 := Lib.hid (held_next HB3.out hkW21)
      clear heq
      repeat ((fail_if_success (with_reducible (show wpList _ _ _ _ _ _))); go_step)
      by_cases c2 : rt2 a * rt2 a % PP = a
      · have ht2 := fun w => rtimes_any r1 r1 Hl2.out Hl2.out w
        rw [show r1 * r1 % PP = a by rw [Hk.out]; exact c2] at ht2
        have heq := fun w => r22_same a Ha22.out w
        have C2 := Lib.hid c2; clear c2
        have Ht2 := Lib.hid ht2; clear ht2
        refine wp_region_noPanic ?_
        refine wp_region_go 99 5 #[ff,ff,ff,ff,ff] (by kernel_rfl) rfl rfl ?_
        intro W3 hW3
        rw [← hW3] at P0 P1 P5 HB3
        clear hW3
        refine go_take2 0 31 #[tt,ff,ff,ff,ff] rfl rfl rfl (by kernel_rfl) (yieldsIf_load_row (by rfl) 40 _ rfl (B5) rfl 40 (r22 r1) (fun _ h => P5.out.below h P5.out.lt) Try.underlying40 rfl (by rw [r22_size]; kernel_rfl)) ((below_dr W3)) ?_
        (try simp only [sI, sS, sZ])
        refine go_take2 1 32 #[tt,tt,ff,ff,ff] rfl rfl rfl (by kernel_rfl) (yieldsIf_load_row (by rfl) 40 _ rfl (B5) rfl 40 (r22 r1) (fun _ h => P5.out.below h P5.out.lt) Try.underlying40 rfl (by rw [r22_size]; kernel_rfl)) ((below_dr W3)) ?_
        (try simp only [sI, sS, sZ])
        refine go_take2 3 34 #[tt,tt,ff,tt,ff] rfl rfl rfl (by kernel_rfl) (yieldsIf_load_row (by rfl) 40 _ rfl (w.heap.size) rfl 40 (r22 a) (fun _ h => P0.out.below h P0.out.lt) Try.underlying40 rfl (by rw [r22_size]; kernel_rfl)) ((below_dr W3)) ?_
        (try simp only [sI, sS, sZ])
        refine wpBut_r1 (i := 2) (by kernel_rfl) ?_
        refine go_call 2 33 #[tt,tt,tt,tt,ff] rfl rfl rfl (by rfl) rfl rfl (by rfl) ent32 (by rfl) (Ht2.out _) ?_
        rintro e wW31 ⟨rfl, hb⟩
        have hkW31 := held_next (below_dr W3) hb
        refine ⟨_, rfl, fun _ => hkW31, ?_⟩
        clear hb
        (try simp only [sI, sS, sZ])
        refine go_take2 4 35 #[tt,tt,tt,tt,tt] (v := ?uv2) rfl rfl rfl (by kernel_rfl) (Or.inl ⟨by rfl, ?uy2⟩) (hkW31) ?urest2
        case uy2 => (intro _ _; go_simp; try with_reducible rfl)
        (try simp only [sI, sS, sZ])
        refine wpBut_done (by kernel_rfl) (NoPanic.normal ?_)
        replace P0 := Lib.hid (P0.out.call hkW31)
        replace P1 := Lib.hid (P1.out.call hkW31)
        replace P5 := Lib.hid (P5.out.call hkW31)
        replace HB3 := Lib.hid (held_next HB3.out hkW31)
        clear heq
        repeat ((fail_if_success (with_reducible (show wpList _ _ _ _ _ _))); go_step)
        have h1 := P5.out.cell 0 (by omega)
        have hzn := dg_nn r1 0
        by_cases c3 : r1 % 2 = 1
        · have ht := dg0_odd r1 c3
          obtain ⟨hf3, hfo⟩ := r3_odd a C2.out (by rw [← Hk.out]; exact c3)
          have hls := fun w => less_any PP r1 (Nat.le_of_lt Hl2.out) PP_lt w
          obtain ⟨z, hz⟩ : ∃ z, z = dg 4096 r1 0 := ⟨_, rfl⟩
          rw [← hz] at h1 ht hzn
          clear hz
          have C3 := Lib.hid c3; clear c3
          have Hf3 := Lib.hid hf3; clear hf3
          have Hfo := Lib.hid hfo; clear hfo
          have Hls := Lib.hid hls; clear hls
          iterate 4 (refine wpList_step (fun K hK => ?_); go_simp; (try go_bits); refine hK _ _ ?_; clear hK K)
          refine wpList_nil ?_
          clear h1 ht hzn
          repeat ((fail_if_success (with_reducible (show wpList _ _ _ _ _ _))); go_step)
          obtain ⟨g, hg⟩ : ∃ g, g = PP - r1 := ⟨_, rfl⟩
          rw [← hg] at Hls
          have Hg := Lib.hid hg; clear hg
          refine wp_region_noPanic ?_
          refine wp_region_go 3 4 #[false, false, false, false] (by kernel_rfl) rfl rfl ?_
          intro W4 hW4
          rw [← hW4] at P0 P1 P5 HB3
          clear hW4
          have P5N := Lib.hid (by first | exact P5.out | exact P5.out.toN (by first | exact e4_size _ | exact r22_size _ | exact k32_size _ | exact pt_size .. | exact rp_size ..) : HasN W4 (B5) _ _)
          refine go_take2 1 42 #[false, true, false, false] rfl rfl rfl (by kernel_rfl) (yieldsIf_load_row (by rfl) 40 _ rfl (B5) rfl 40 (r22 r1) (fun _ h => P5.out.below h P5.out.lt) Try.underlying40 rfl (by rw [r22_size]; kernel_rfl)) ((below_dr W4)) ?_
          (try simp only [sI, sS, sZ])
          refine wpBut_r1 (i := 0) (by kernel_rfl) ?_
          refine go_call 0 41 #[true, true, false, false] rfl rfl rfl (by rfl) rfl rfl (by rfl) ent82 (by rfl) (prime_any _) ?_
          rintro e wW41 ⟨rfl, hb⟩
          have hkW41 := held_next (below_dr W4) hb
          refine ⟨_, rfl, fun _ => hkW41, ?_⟩
          clear hb
          (try simp only [sI, sS, sZ])
          refine wpBut_r1 (i := 2) (by kernel_rfl) ?_
          refine go_call 2 43 #[true, true, true, false] rfl rfl rfl (by rfl) rfl rfl (by rfl) ent81 (by rfl) (Hls.out _) ?_
          rintro e wW42 ⟨rfl, hb⟩
          have hkW42 := held_next hkW41 hb
          refine ⟨_, rfl, fun _ => hkW42, ?_⟩
          clear hb
          (try simp only [sI, sS, sZ])
          refine wpBut_r1 (i := 3) (by kernel_rfl) ?_
          obtain ⟨Zq, hZ, mZ⟩ := P5N.out.below hkW42 P5N.out.lt
          have MZ := Lib.hid mZ; clear mZ
          have HZ := Lib.hid hZ; clear hZ
          refine go_store 3 #[true, true, true, true] rfl rfl rfl (by rfl) 40 _ _ rfl (B5) _ rfl rfl 40 Zq MZ.out (by rw [r22_size]; kernel_rfl) (HZ.out.trans (r22_size ..).symm) (row_one _ _ _) ⟨fun h => (h rfl).elim, ?_⟩
          (try simp only [sI, sS, sZ])
          refine wpBut_done (by kernel_rfl) (NoPanic.normal ?_)
          replace P0 := Lib.hid ((P0.out.call hkW42).setRow_other (B5) (r22 g) (by omega))
          replace P1 := Lib.hid ((P1.out.call hkW42).setRow_other (B5) (r22 g) (by omega))
          clear P5 P5N
          have P5 := Lib.hid (MZ.out.setRow (r22 g)); clear MZ HZ
          replace HB3 := Lib.hid (below_setRow (held_next HB3.out hkW42) (B5) (r22 g) (by omega))
          repeat ((fail_if_success (with_reducible (show wpList _ _ _ _ _ _))); go_step)
          refine wpList_load (by rfl) 40 _ rfl (B5) rfl 40 (r22 g) P5.out Try.underlying40 rfl (by rw [r22_size]; kernel_rfl) 44 rfl ?_
          (try simp only [Act.put, sI, sS, sZ])
          first | (obtain ⟨Zq, hZ, mZ⟩ := P1.out) | (obtain ⟨Zq, hZ, mZ⟩ := P1.out.toN (r22_size _))
          clear P1
          have hZ' := Lib.hid hZ; clear hZ
          have mZ' := Lib.hid mZ; clear mZ
          refine wpList_store_row rfl 40 _ _ rfl (w.heap.size + 1) _ rfl rfl 40 Zq mZ'.out (by rw [r22_size]; kernel_rfl) (hZ'.out.trans (r22_size _).symm) (row_one _ _ _) ?_
          (try simp only [Act.put, sI, sS, sZ])
          replace P0 := Lib.hid (P0.out.setRow_other (w.heap.size + 1) (r22 g) (by omega))
          replace P5 := Lib.hid (P5.out.setRow_other (w.heap.size + 1) (r22 g) (by omega))
          have P1 := Lib.hid (mZ'.out.setRow (r22 g))
          clear mZ' hZ'
          replace HB3 := Lib.hid (below_setRow HB3.out (w.heap.size + 1) (r22 g) (by omega))
          (refine wpList_step (fun K hK => ?_); go_simp; (try go_bits); refine hK _ _ ?_; clear hK K)
          refine wpList_nil ?_
          go_wp2_with fail
          exact bodyPost_ret (v := .tuple #[.agg (r22 g), .bool true]) (results_cell_tmp_row (fn := Try.f45) (p := 2) (t2 := 3) (ty := 40) (t := 40) (by rfl) _ _ (w.heap.size + 1) _ _ _ rfl P1.out Try.underlying40 rfl (by rw [r22_size]; kernel_rfl)) rfl ⟨by rw [Hf3.out, Hfo.out, Hg.out, Hk.out], HB3.out⟩
        · have ht := dg0_even r1 c3
          obtain ⟨hf3, hfo⟩ := r3_even a C2.out (by rw [← Hk.out]; exact c3)
          obtain ⟨z, hz⟩ : ∃ z, z = dg 4096 r1 0 := ⟨_, rfl⟩
          rw [← hz] at h1 ht hzn
          clear hz
          have C3 := Lib.hid c3; clear c3
          have Hf3 := Lib.hid hf3; clear hf3
          have Hfo := Lib.hid hfo; clear hfo
          iterate 4 (refine wpList_step (fun K hK => ?_); go_simp; (try go_bits); refine hK _ _ ?_; clear hK K)
          refine wpList_nil ?_
          clear h1 ht hzn
          repeat ((fail_if_success (with_reducible (show wpList _ _ _ _ _ _))); go_step)
          refine wpList_load (by rfl) 40 _ rfl (B5) rfl 40 (r22 r1) P5.out Try.underlying40 rfl (by rw [r22_size]; kernel_rfl) 44 rfl ?_
          (try simp only [Act.put, sI, sS, sZ])
          first | (obtain ⟨Zq, hZ, mZ⟩ := P1.out) | (obtain ⟨Zq, hZ, mZ⟩ := P1.out.toN (r22_size _))
          clear P1
          have hZ' := Lib.hid hZ; clear hZ
          have mZ' := Lib.hid mZ; clear mZ
          refine wpList_store_row rfl 40 _ _ rfl (w.heap.size + 1) _ rfl rfl 40 Zq mZ'.out (by rw [r22_size]; kernel_rfl) (hZ'.out.trans (r22_size _).symm) (row_one _ _ _) ?_
          (try simp only [Act.put, sI, sS, sZ])
          replace P0 := Lib.hid (P0.out.setRow_other (w.heap.size + 1) (r22 r1) (by omega))
          replace P5 := Lib.hid (P5.out.setRow_other (w.heap.size + 1) (r22 r1) (by omega))
          have P1 := Lib.hid (mZ'.out.setRow (r22 r1))
          clear mZ' hZ'
          replace HB3 := Lib.hid (below_setRow HB3.out (w.heap.size + 1) (r22 r1) (by omega))
          (refine wpList_step (fun K hK => ?_); go_simp; (try go_bits); refine hK _ _ ?_; clear hK K)
          refine wpList_nil ?_
          go_wp2_with fail
          exact bodyPost_ret (v := .tuple #[.agg (r22 r1), .bool true]) (results_cell_tmp_row (fn := Try.f45) (p := 2) (t2 := 3) (ty := 40) (t := 40) (by rfl) _ _ (w.heap.size + 1) _ _ _ rfl P1.out Try.underlying40 rfl (by rw [r22_size]; kernel_rfl)) rfl ⟨by rw [Hf3.out, Hfo.out, Hk.out], HB3.out⟩
      · obtain ⟨hf3, hfo⟩ := r3_non a c2
        have ht2 := fun w => rtimes_any r1 r1 Hl2.out Hl2.out w
        have hne : ¬ r1 * r1 % PP = a := by rw [Hk.out]; exact c2
        have hs2 : r1 * r1 % PP < PP := Nat.mod_lt _ PP_pos
        obtain ⟨s2, hs2e⟩ : ∃ s, s = r1 * r1 % PP := ⟨_, rfl⟩
        rw [← hs2e] at ht2 hne hs2
        have heq := fun w => r22_other s2 a (PPr_22 _ hs2) Ha22.out hne w
        clear hne hs2 hs2e
        have C2 := Lib.hid c2; clear c2
        have Hf3 := Lib.hid hf3; clear hf3
        have Hfo := Lib.hid hfo; clear hfo
        have Ht2 := Lib.hid ht2; clear ht2
        refine wp_region_noPanic ?_
        refine wp_region_go 99 5 #[ff,ff,ff,ff,ff] (by kernel_rfl) rfl rfl ?_
        intro W3 hW3
        rw [← hW3] at P0 P1 P5 HB3
        clear hW3
        refine go_take2 0 31 #[tt,ff,ff,ff,ff] rfl rfl rfl (by kernel_rfl) (yieldsIf_load_row (by rfl) 40 _ rfl (B5) rfl 40 (r22 r1) (fun _ h => P5.out.below h P5.out.lt) Try.underlying40 rfl (by rw [r22_size]; kernel_rfl)) ((below_dr W3)) ?_
        (try simp only [sI, sS, sZ])
        refine go_take2 1 32 #[tt,tt,ff,ff,ff] rfl rfl rfl (by kernel_rfl) (yieldsIf_load_row (by rfl) 40 _ rfl (B5) rfl 40 (r22 r1) (fun _ h => P5.out.below h P5.out.lt) Try.underlying40 rfl (by rw [r22_size]; kernel_rfl)) ((below_dr W3)) ?_
        (try simp only [sI, sS, sZ])
        refine go_take2 3 34 #[tt,tt,ff,tt,ff] rfl rfl rfl (by kernel_rfl) (yieldsIf_load_row (by rfl) 40 _ rfl (w.heap.size) rfl 40 (r22 a) (fun _ h => P0.out.below h P0.out.lt) Try.underlying40 rfl (by rw [r22_size]; kernel_rfl)) ((below_dr W3)) ?_
        (try simp only [sI, sS, sZ])
        refine wpBut_r1 (i := 2) (by kernel_rfl) ?_
        refine go_call 2 33 #[tt,tt,tt,tt,ff] rfl rfl rfl (by rfl) rfl rfl (by rfl) ent32 (by rfl) (Ht2.out _) ?_
        rintro e wW31 ⟨rfl, hb⟩
        have hkW31 := held_next (below_dr W3) hb
        refine ⟨_, rfl, fun _ => hkW31, ?_⟩
        clear hb
        (try simp only [sI, sS, sZ])
        refine go_take2 4 35 #[tt,tt,tt,tt,tt] (v := ?uv3) rfl rfl rfl (by kernel_rfl) (Or.inl ⟨by rfl, ?uy3⟩) (hkW31) ?urest3
        case uy3 => (intro _ _; go_simp; try with_reducible rfl)
        (try simp only [sI, sS, sZ])
        refine wpBut_done (by kernel_rfl) (NoPanic.normal ?_)
        replace P0 := Lib.hid (P0.out.call hkW31)
        replace P1 := Lib.hid (P1.out.call hkW31)
        replace P5 := Lib.hid (P5.out.call hkW31)
        replace HB3 := Lib.hid (held_next HB3.out hkW31)
        clear heq
        repeat ((fail_if_success (with_reducible (show wpList _ _ _ _ _ _))); go_step)
        refine wpList_step (fun K hK => ?_)
        go_simp
        (try go_bits)
        rw [Hz0.out]
        refine hK _ _ ?_
        clear hK K
        first | (obtain ⟨Zq, hZ, mZ⟩ := P1.out) | (obtain ⟨Zq, hZ, mZ⟩ := P1.out.toN (r22_size _))
        clear P1
        have hZ' := Lib.hid hZ; clear hZ
        have mZ' := Lib.hid mZ; clear mZ
        refine wpList_store_row rfl 40 _ _ rfl (w.heap.size + 1) _ rfl rfl 40 Zq mZ'.out (by rw [r22_size]; kernel_rfl) (hZ'.out.trans (r22_size _).symm) (row_one _ _ _) ?_
        (try simp only [Act.put, sI, sS, sZ])
        replace P0 := Lib.hid (P0.out.setRow_other (w.heap.size + 1) (r22 0) (by omega))
        replace P5 := Lib.hid (P5.out.setRow_other (w.heap.size + 1) (r22 0) (by omega))
        have P1 := Lib.hid (mZ'.out.setRow (r22 0))
        clear mZ' hZ'
        replace HB3 := Lib.hid (below_setRow HB3.out (w.heap.size + 1) (r22 0) (by omega))
        (refine wpList_step (fun K hK => ?_); go_simp; (try go_bits); refine hK _ _ ?_; clear hK K)
        refine wpList_nil ?_
        go_wp2_with fail
        exact bodyPost_ret (v := .tuple #[.agg (r22 0), .bool false]) (results_cell_tmp_row (fn := Try.f45) (p := 2) (t2 := 3) (ty := 40) (t := 40) (by rfl) _ _ (w.heap.size + 1) _ _ _ rfl P1.out Try.underlying40 rfl (by rw [r22_size]; kernel_rfl)) rfl ⟨by rw [Hf3.out, Hfo.out], HB3.out⟩
    · have hr2 := r2_other a c1
      have ht := fun w => rtimes_any r1 r1 Hr1.out Hr1.out w
      have hne : ¬ r1 * r1 % PP = a := by rw [Hrr.out]; exact c1
      have hs1 : r1 * r1 % PP < PP := Nat.mod_lt _ PP_pos
      obtain ⟨s1, hs⟩ : ∃ s, s = r1 * r1 % PP := ⟨_, rfl⟩
      rw [← hs] at ht hne hs1
      have heq := fun w => r22_other s1 a (PPr_22 _ hs1) Ha22.out hne w
      have k1 := fun w => rint_nn 2 (by omega) w
      have k2 := fun w => rint_nn 1 (by omega) w
      have k3 := fun w => less_any PP (1 % PP) (Nat.le_of_lt (Nat.mod_lt _ PP_pos)) PP_lt w
      have k4 := fun w => half_any (PP - 1 % PP) (Nat.lt_of_le_of_lt (Nat.sub_le _ _) PP_lt) w
      have k5 := fun w => half_any ((PP - 1 % PP) / 2) (half_lt _ (Nat.lt_of_le_of_lt (Nat.sub_le _ _) PP_lt)) w
      have k6 := fun w => rpow_any (2 % PP) ((PP - 1 % PP) / 2 / 2) (Nat.mod_lt _ PP_pos) ei_lt w
      have hti : rti < PP := pwm_lt _ _
      rw [show pwm (2 % PP) ((PP - 1 % PP) / 2 / 2) = rti from rfl] at k6
      obtain ⟨ti, hti2⟩ : ∃ x, x = rti := ⟨_, rfl⟩
      rw [← hti2] at k6 hti hr2
      have k7 := fun w => rtimes_any r1 ti Hr1.out hti w
      obtain ⟨v2, hv2⟩ : ∃ x, x = 2 % PP := ⟨_, rfl⟩
      rw [← hv2] at k1 k6
      obtain ⟨v1, hv1⟩ : ∃ x, x = 1 % PP := ⟨_, rfl⟩
      rw [← hv1] at k2 k3 k4 k5 k6
      obtain ⟨v3, hv3⟩ : ∃ x, x = PP - v1 := ⟨_, rfl⟩
      rw [← hv3] at k3 k4 k5 k6
      obtain ⟨v4, hv4⟩ : ∃ x, x = v3 / 2 := ⟨_, rfl⟩
      rw [← hv4] at k4 k5 k6
      obtain ⟨v5, hv5⟩ : ∃ x, x = v4 / 2 := ⟨_, rfl⟩
      rw [← hv5] at k5 k6
      have hk : r1 * ti % PP = rt2 a := by rw [hr2, Hrr.out]
      have hl2 : r1 * ti % PP < PP := Nat.mod_lt _ PP_pos
      obtain ⟨r2, hr2e⟩ : ∃ r, r = r1 * ti % PP := ⟨_, rfl⟩
      rw [← hr2e] at k7 hk hl2
      clear hne hs1 hs hti hr2e hv5 hv4 hv3 hv1 hv2 hti2
      have Ht := Lib.hid ht; clear ht
      have C1 := Lib.hid c1; clear c1
      have Hr2 := Lib.hid hr2; clear hr2
      have K1 := Lib.hid k1; clear k1
      have K2 := Lib.hid k2; clear k2
      have K3 := Lib.hid k3; clear k3
      have K4 := Lib.hid k4; clear k4
      have K5 := Lib.hid k5; clear k5
      have K6 := Lib.hid k6; clear k6
      have K7 := Lib.hid k7; clear k7
      have Hk := Lib.hid hk; clear hk
      have Hl2 := Lib.hid hl2; clear hl2
      refine wp_region_noPanic ?_
      refine wp_region_go 99 5 #[ff,ff,ff,ff,ff] (by kernel_rfl) rfl rfl ?_
      intro W2 hW2
      rw [← hW2] at P0 P1 P5 HB3
      clear hW2
      refine go_take2 0 17 #[tt,ff,ff,ff,ff] rfl rfl rfl (by kernel_rfl) (yieldsIf_load_row (by rfl) 40 _ rfl (B5) rfl 40 (r22 r1) (fun _ h => P5.out.below h P5.out.lt) Try.underlying40 rfl (by rw [r22_size]; kernel_rfl)) ((below_dr W2)) ?_
      (try simp only [sI, sS, sZ])
      refine go_take2 1 18 #[tt,tt,ff,ff,ff] rfl rfl rfl (by kernel_rfl) (yieldsIf_load_row (by rfl) 40 _ rfl (B5) rfl 40 (r22 r1) (fun _ h => P5.out.below h P5.out.lt) Try.underlying40 rfl (by rw [r22_size]; kernel_rfl)) ((below_dr W2)) ?_
      (try simp only [sI, sS, sZ])
      refine go_take2 3 20 #[tt,tt,ff,tt,ff] rfl rfl rfl (by kernel_rfl) (yieldsIf_load_row (by rfl) 40 _ rfl (w.heap.size) rfl 40 (r22 a) (fun _ h => P0.out.below h P0.out.lt) Try.underlying40 rfl (by rw [r22_size]; kernel_rfl)) ((below_dr W2)) ?_
      (try simp only [sI, sS, sZ])
      refine wpBut_r1 (i := 2) (by kernel_rfl) ?_
      refine go_call 2 19 #[tt,tt,tt,tt,ff] rfl rfl rfl (by rfl) rfl rfl (by rfl) ent32 (by rfl) (Ht.out _) ?_
      rintro e wW21 ⟨rfl, hb⟩
      have hkW21 := held_next (below_dr W2) hb
      refine ⟨_, rfl, fun _ => hkW21, ?_⟩
      clear hb
      (try simp only [sI, sS, sZ])
      refine go_take2 4 21 #[tt,tt,tt,tt,tt] (v := ?uv4) rfl rfl rfl (by kernel_rfl) (Or.inl ⟨by rfl, ?uy4⟩) (hkW21) ?urest4
      case uy4 => (intro _ _; go_simp; try with_reducible rfl)
      (try simp only [sI, sS, sZ])
      refine wpBut_done (by kernel_rfl) (NoPanic.normal ?_)
      replace P0 := Lib.hid (P0.out.call hkW21)
      replace P1 := Lib.hid (P1.out.call hkW21)
      replace P5 := Lib.hid (P5.out.call hkW21)
      replace HB3 := Lib.hid (held_next HB3.out hkW21)
      clear heq
      repeat ((fail_if_success (with_reducible (show wpList _ _ _ _ _ _))); go_step)
      refine wp_region_noPanic ?_
      refine wp_region_go 9 10 #[ff,ff,ff,ff,ff,ff,ff,ff,ff,ff] (by kernel_rfl) rfl rfl ?_
      intro W3 hW3
      rw [← hW3] at P0 P1 P5 HB3
      clear hW3
      have P5N := Lib.hid (by first | exact P5.out | exact P5.out.toN (by first | exact e4_size _ | exact r22_size _ | exact k32_size _ | exact pt_size .. | exact rp_size ..) : HasN W3 (B5) _ _)
      refine go_take2 0 22 #[tt,ff,ff,ff,ff,ff,ff,ff,ff,ff] rfl rfl rfl (by kernel_rfl) (yieldsIf_load_row (by rfl) 40 _ rfl (B5) rfl 40 (r22 r1) (fun _ h => P5.out.below h P5.out.lt) Try.underlying40 rfl (by rw [r22_size]; kernel_rfl)) ((below_dr W3)) ?_
      (try simp only [sI, sS, sZ])
      refine wpBut_r1 (i := 1) (by kernel_rfl) ?_
      refine go_call 1 23 #[tt,tt,ff,ff,ff,ff,ff,ff,ff,ff] rfl rfl rfl (by rfl) rfl rfl (by rfl) ent35 (by rfl) (K1.out _) ?_
      rintro e wW31 ⟨rfl, hb⟩
      have hkW31 := held_next (below_dr W3) hb
      refine ⟨_, rfl, fun _ => hkW31, ?_⟩
      clear hb
      (try simp only [sI, sS, sZ])
      refine wpBut_r1 (i := 2) (by kernel_rfl) ?_
      refine go_call 2 24 #[tt,tt,tt,ff,ff,ff,ff,ff,ff,ff] rfl rfl rfl (by rfl) rfl rfl (by rfl) ent82 (by rfl) (prime_any _) ?_
      rintro e wW32 ⟨rfl, hb⟩
      have hkW32 := held_next hkW31 hb
      refine ⟨_, rfl, fun _ => hkW32, ?_⟩
      clear hb
      (try simp only [sI, sS, sZ])
      refine wpBut_r1 (i := 3) (by kernel_rfl) ?_
      refine go_call 3 25 #[tt,tt,tt,tt,ff,ff,ff,ff,ff,ff] rfl rfl rfl (by rfl) rfl rfl (by rfl) ent35 (by rfl) (K2.out _) ?_
      rintro e wW33 ⟨rfl, hb⟩
      have hkW33 := held_next hkW32 hb
      refine ⟨_, rfl, fun _ => hkW33, ?_⟩
      clear hb
      (try simp only [sI, sS, sZ])
      refine wpBut_r1 (i := 4) (by kernel_rfl) ?_
      refine go_call 4 26 #[tt,tt,tt,tt,tt,ff,ff,ff,ff,ff] rfl rfl rfl (by rfl) rfl rfl (by rfl) ent81 (by rfl) (K3.out _) ?_
      rintro e wW34 ⟨rfl, hb⟩
      have hkW34 := held_next hkW33 hb
      refine ⟨_, rfl, fun _ => hkW34, ?_⟩
      clear hb
      (try simp only [sI, sS, sZ])
      refine wpBut_r1 (i := 5) (by kernel_rfl) ?_
      refine go_call 5 27 #[tt,tt,tt,tt,tt,tt,ff,ff,ff,ff] rfl rfl rfl (by rfl) rfl rfl (by rfl) ent86 (by rfl) (K4.out _) ?_
      rintro e wW35 ⟨rfl, hb⟩
      have hkW35 := held_next hkW34 hb
      refine ⟨_, rfl, fun _ => hkW35, ?_⟩
      clear hb
      (try simp only [sI, sS, sZ])
      refine wpBut_r1 (i := 6) (by kernel_rfl) ?_
      refine go_call 6 28 #[tt,tt,tt,tt,tt,tt,tt,ff,ff,ff] rfl rfl rfl (by rfl) rfl rfl (by rfl) ent86 (by rfl) (K5.out _) ?_
      rintro e wW36 ⟨rfl, hb⟩
      have hkW36 := held_next hkW35 hb
      refine ⟨_, rfl, fun _ => hkW36, ?_⟩
      clear hb
      (try simp only [sI, sS, sZ])
      refine wpBut_r1 (i := 7) (by kernel_rfl) ?_
      refine go_call 7 29 #[tt,tt,tt,tt,tt,tt,tt,tt,ff,ff] rfl rfl rfl (by rfl) rfl rfl (by rfl) ent85 (by rfl) (K6.out _) ?_
      rintro e wW37 ⟨rfl, hb⟩
      have hkW37 := held_next hkW36 hb
      refine ⟨_, rfl, fun _ => hkW37, ?_⟩
      clear hb
      (try simp only [sI, sS, sZ])
      refine wpBut_r1 (i := 8) (by kernel_rfl) ?_
      refine go_call 8 30 #[tt,tt,tt,tt,tt,tt,tt,tt,tt,ff] rfl rfl rfl (by rfl) rfl rfl (by rfl) ent32 (by rfl) (K7.out _) ?_
      rintro e wW38 ⟨rfl, hb⟩
      have hkW38 := held_next hkW37 hb
      refine ⟨_, rfl, fun _ => hkW38, ?_⟩
      clear hb
      (try simp only [sI, sS, sZ])
      refine wpBut_r1 (i := 9) (by kernel_rfl) ?_
      obtain ⟨Zq, hZ, mZ⟩ := P5N.out.below hkW38 P5N.out.lt
      have MZ := Lib.hid mZ; clear mZ
      have HZ := Lib.hid hZ; clear hZ
      refine go_store 9 #[tt,tt,tt,tt,tt,tt,tt,tt,tt,tt] rfl rfl rfl (by rfl) 40 _ _ rfl (B5) _ rfl rfl 40 Zq MZ.out (by rw [r22_size]; kernel_rfl) (HZ.out.trans (r22_size ..).symm) (row_one _ _ _) ⟨fun h => (h rfl).elim, ?_⟩
      (try simp only [sI, sS, sZ])
      refine wpBut_done (by kernel_rfl) (NoPanic.normal ?_)
      replace P0 := Lib.hid ((P0.out.call hkW38).setRow_other (B5) (r22 r2) (by omega))
      replace P1 := Lib.hid ((P1.out.call hkW38).setRow_other (B5) (r22 r2) (by omega))
      clear P5 P5N
      have P5 := Lib.hid (MZ.out.setRow (r22 r2)); clear MZ HZ
      replace HB3 := Lib.hid (below_setRow (held_next HB3.out hkW38) (B5) (r22 r2) (by omega))
      repeat ((fail_if_success (with_reducible (show wpList _ _ _ _ _ _))); go_step)
      by_cases c2 : rt2 a * rt2 a % PP = a
      · have ht2 := fun w => rtimes_any r2 r2 Hl2.out Hl2.out w
        rw [show r2 * r2 % PP = a by rw [Hk.out]; exact c2] at ht2
        have heq := fun w => r22_same a Ha22.out w
        have C2 := Lib.hid c2; clear c2
        have Ht2 := Lib.hid ht2; clear ht2
        refine wp_region_noPanic ?_
        refine wp_region_go 99 5 #[ff,ff,ff,ff,ff] (by kernel_rfl) rfl rfl ?_
        intro W4 hW4
        rw [← hW4] at P0 P1 P5 HB3
        clear hW4
        refine go_take2 0 31 #[tt,ff,ff,ff,ff] rfl rfl rfl (by kernel_rfl) (yieldsIf_load_row (by rfl) 40 _ rfl (B5) rfl 40 (r22 r2) (fun _ h => P5.out.below h P5.out.lt) Try.underlying40 rfl (by rw [r22_size]; kernel_rfl)) ((below_dr W4)) ?_
        (try simp only [sI, sS, sZ])
        refine go_take2 1 32 #[tt,tt,ff,ff,ff] rfl rfl rfl (by kernel_rfl) (yieldsIf_load_row (by rfl) 40 _ rfl (B5) rfl 40 (r22 r2) (fun _ h => P5.out.below h P5.out.lt) Try.underlying40 rfl (by rw [r22_size]; kernel_rfl)) ((below_dr W4)) ?_
        (try simp only [sI, sS, sZ])
        refine go_take2 3 34 #[tt,tt,ff,tt,ff] rfl rfl rfl (by kernel_rfl) (yieldsIf_load_row (by rfl) 40 _ rfl (w.heap.size) rfl 40 (r22 a) (fun _ h => P0.out.below h P0.out.lt) Try.underlying40 rfl (by rw [r22_size]; kernel_rfl)) ((below_dr W4)) ?_
        (try simp only [sI, sS, sZ])
        refine wpBut_r1 (i := 2) (by kernel_rfl) ?_
        refine go_call 2 33 #[tt,tt,tt,tt,ff] rfl rfl rfl (by rfl) rfl rfl (by rfl) ent32 (by rfl) (Ht2.out _) ?_
        rintro e wW41 ⟨rfl, hb⟩
        have hkW41 := held_next (below_dr W4) hb
        refine ⟨_, rfl, fun _ => hkW41, ?_⟩
        clear hb
        (try simp only [sI, sS, sZ])
        refine go_take2 4 35 #[tt,tt,tt,tt,tt] (v := ?uv5) rfl rfl rfl (by kernel_rfl) (Or.inl ⟨by rfl, ?uy5⟩) (hkW41) ?urest5
        case uy5 => (intro _ _; go_simp; try with_reducible rfl)
        (try simp only [sI, sS, sZ])
        refine wpBut_done (by kernel_rfl) (NoPanic.normal ?_)
        replace P0 := Lib.hid (P0.out.call hkW41)
        replace P1 := Lib.hid (P1.out.call hkW41)
        replace P5 := Lib.hid (P5.out.call hkW41)
        replace HB3 := Lib.hid (held_next HB3.out hkW41)
        clear heq
        repeat ((fail_if_success (with_reducible (show wpList _ _ _ _ _ _))); go_step)
        have h1 := P5.out.cell 0 (by omega)
        have hzn := dg_nn r2 0
        by_cases c3 : r2 % 2 = 1
        · have ht := dg0_odd r2 c3
          obtain ⟨hf3, hfo⟩ := r3_odd a C2.out (by rw [← Hk.out]; exact c3)
          have hls := fun w => less_any PP r2 (Nat.le_of_lt Hl2.out) PP_lt w
          obtain ⟨z, hz⟩ : ∃ z, z = dg 4096 r2 0 := ⟨_, rfl⟩
          rw [← hz] at h1 ht hzn
          clear hz
          have C3 := Lib.hid c3; clear c3
          have Hf3 := Lib.hid hf3; clear hf3
          have Hfo := Lib.hid hfo; clear hfo
          have Hls := Lib.hid hls; clear hls
          iterate 4 (refine wpList_step (fun K hK => ?_); go_simp; (try go_bits); refine hK _ _ ?_; clear hK K)
          refine wpList_nil ?_
          clear h1 ht hzn
          repeat ((fail_if_success (with_reducible (show wpList _ _ _ _ _ _))); go_step)
          obtain ⟨g, hg⟩ : ∃ g, g = PP - r2 := ⟨_, rfl⟩
          rw [← hg] at Hls
          have Hg := Lib.hid hg; clear hg
          refine wp_region_noPanic ?_
          refine wp_region_go 3 4 #[false, false, false, false] (by kernel_rfl) rfl rfl ?_
          intro W5 hW5
          rw [← hW5] at P0 P1 P5 HB3
          clear hW5
          have P5N := Lib.hid (by first | exact P5.out | exact P5.out.toN (by first | exact e4_size _ | exact r22_size _ | exact k32_size _ | exact pt_size .. | exact rp_size ..) : HasN W5 (B5) _ _)
          refine go_take2 1 42 #[false, true, false, false] rfl rfl rfl (by kernel_rfl) (yieldsIf_load_row (by rfl) 40 _ rfl (B5) rfl 40 (r22 r2) (fun _ h => P5.out.below h P5.out.lt) Try.underlying40 rfl (by rw [r22_size]; kernel_rfl)) ((below_dr W5)) ?_
          (try simp only [sI, sS, sZ])
          refine wpBut_r1 (i := 0) (by kernel_rfl) ?_
          refine go_call 0 41 #[true, true, false, false] rfl rfl rfl (by rfl) rfl rfl (by rfl) ent82 (by rfl) (prime_any _) ?_
          rintro e wW51 ⟨rfl, hb⟩
          have hkW51 := held_next (below_dr W5) hb
          refine ⟨_, rfl, fun _ => hkW51, ?_⟩
          clear hb
          (try simp only [sI, sS, sZ])
          refine wpBut_r1 (i := 2) (by kernel_rfl) ?_
          refine go_call 2 43 #[true, true, true, false] rfl rfl rfl (by rfl) rfl rfl (by rfl) ent81 (by rfl) (Hls.out _) ?_
          rintro e wW52 ⟨rfl, hb⟩
          have hkW52 := held_next hkW51 hb
          refine ⟨_, rfl, fun _ => hkW52, ?_⟩
          clear hb
          (try simp only [sI, sS, sZ])
          refine wpBut_r1 (i := 3) (by kernel_rfl) ?_
          obtain ⟨Zq, hZ, mZ⟩ := P5N.out.below hkW52 P5N.out.lt
          have MZ := Lib.hid mZ; clear mZ
          have HZ := Lib.hid hZ; clear hZ
          refine go_store 3 #[true, true, true, true] rfl rfl rfl (by rfl) 40 _ _ rfl (B5) _ rfl rfl 40 Zq MZ.out (by rw [r22_size]; kernel_rfl) (HZ.out.trans (r22_size ..).symm) (row_one _ _ _) ⟨fun h => (h rfl).elim, ?_⟩
          (try simp only [sI, sS, sZ])
          refine wpBut_done (by kernel_rfl) (NoPanic.normal ?_)
          replace P0 := Lib.hid ((P0.out.call hkW52).setRow_other (B5) (r22 g) (by omega))
          replace P1 := Lib.hid ((P1.out.call hkW52).setRow_other (B5) (r22 g) (by omega))
          clear P5 P5N
          have P5 := Lib.hid (MZ.out.setRow (r22 g)); clear MZ HZ
          replace HB3 := Lib.hid (below_setRow (held_next HB3.out hkW52) (B5) (r22 g) (by omega))
          repeat ((fail_if_success (with_reducible (show wpList _ _ _ _ _ _))); go_step)
          refine wpList_load (by rfl) 40 _ rfl (B5) rfl 40 (r22 g) P5.out Try.underlying40 rfl (by rw [r22_size]; kernel_rfl) 44 rfl ?_
          (try simp only [Act.put, sI, sS, sZ])
          first | (obtain ⟨Zq, hZ, mZ⟩ := P1.out) | (obtain ⟨Zq, hZ, mZ⟩ := P1.out.toN (r22_size _))
          clear P1
          have hZ' := Lib.hid hZ; clear hZ
          have mZ' := Lib.hid mZ; clear mZ
          refine wpList_store_row rfl 40 _ _ rfl (w.heap.size + 1) _ rfl rfl 40 Zq mZ'.out (by rw [r22_size]; kernel_rfl) (hZ'.out.trans (r22_size _).symm) (row_one _ _ _) ?_
          (try simp only [Act.put, sI, sS, sZ])
          replace P0 := Lib.hid (P0.out.setRow_other (w.heap.size + 1) (r22 g) (by omega))
          replace P5 := Lib.hid (P5.out.setRow_other (w.heap.size + 1) (r22 g) (by omega))
          have P1 := Lib.hid (mZ'.out.setRow (r22 g))
          clear mZ' hZ'
          replace HB3 := Lib.hid (below_setRow HB3.out (w.heap.size + 1) (r22 g) (by omega))
          (refine wpList_step (fun K hK => ?_); go_simp; (try go_bits); refine hK _ _ ?_; clear hK K)
          refine wpList_nil ?_
          go_wp2_with fail
          exact bodyPost_ret (v := .tuple #[.agg (r22 g), .bool true]) (results_cell_tmp_row (fn := Try.f45) (p := 2) (t2 := 3) (ty := 40) (t := 40) (by rfl) _ _ (w.heap.size + 1) _ _ _ rfl P1.out Try.underlying40 rfl (by rw [r22_size]; kernel_rfl)) rfl ⟨by rw [Hf3.out, Hfo.out, Hg.out, Hk.out], HB3.out⟩
        · have ht := dg0_even r2 c3
          obtain ⟨hf3, hfo⟩ := r3_even a C2.out (by rw [← Hk.out]; exact c3)
          obtain ⟨z, hz⟩ : ∃ z, z = dg 4096 r2 0 := ⟨_, rfl⟩
          rw [← hz] at h1 ht hzn
          clear hz
          have C3 := Lib.hid c3; clear c3
          have Hf3 := Lib.hid hf3; clear hf3
          have Hfo := Lib.hid hfo; clear hfo
          iterate 4 (refine wpList_step (fun K hK => ?_); go_simp; (try go_bits); refine hK _ _ ?_; clear hK K)
          refine wpList_nil ?_
          clear h1 ht hzn
          repeat ((fail_if_success (with_reducible (show wpList _ _ _ _ _ _))); go_step)
          refine wpList_load (by rfl) 40 _ rfl (B5) rfl 40 (r22 r2) P5.out Try.underlying40 rfl (by rw [r22_size]; kernel_rfl) 44 rfl ?_
          (try simp only [Act.put, sI, sS, sZ])
          first | (obtain ⟨Zq, hZ, mZ⟩ := P1.out) | (obtain ⟨Zq, hZ, mZ⟩ := P1.out.toN (r22_size _))
          clear P1
          have hZ' := Lib.hid hZ; clear hZ
          have mZ' := Lib.hid mZ; clear mZ
          refine wpList_store_row rfl 40 _ _ rfl (w.heap.size + 1) _ rfl rfl 40 Zq mZ'.out (by rw [r22_size]; kernel_rfl) (hZ'.out.trans (r22_size _).symm) (row_one _ _ _) ?_
          (try simp only [Act.put, sI, sS, sZ])
          replace P0 := Lib.hid (P0.out.setRow_other (w.heap.size + 1) (r22 r2) (by omega))
          replace P5 := Lib.hid (P5.out.setRow_other (w.heap.size + 1) (r22 r2) (by omega))
          have P1 := Lib.hid (mZ'.out.setRow (r22 r2))
          clear mZ' hZ'
          replace HB3 := Lib.hid (below_setRow HB3.out (w.heap.size + 1) (r22 r2) (by omega))
          (refine wpList_step (fun K hK => ?_); go_simp; (try go_bits); refine hK _ _ ?_; clear hK K)
          refine wpList_nil ?_
          go_wp2_with fail
          exact bodyPost_ret (v := .tuple #[.agg (r22 r2), .bool true]) (results_cell_tmp_row (fn := Try.f45) (p := 2) (t2 := 3) (ty := 40) (t := 40) (by rfl) _ _ (w.heap.size + 1) _ _ _ rfl P1.out Try.underlying40 rfl (by rw [r22_size]; kernel_rfl)) rfl ⟨by rw [Hf3.out, Hfo.out, Hk.out], HB3.out⟩
      · obtain ⟨hf3, hfo⟩ := r3_non a c2
        have ht2 := fun w => rtimes_any r2 r2 Hl2.out Hl2.out w
        have hne : ¬ r2 * r2 % PP = a := by rw [Hk.out]; exact c2
        have hs2 : r2 * r2 % PP < PP := Nat.mod_lt _ PP_pos
        obtain ⟨s2, hs2e⟩ : ∃ s, s = r2 * r2 % PP := ⟨_, rfl⟩
        rw [← hs2e] at ht2 hne hs2
        have heq := fun w => r22_other s2 a (PPr_22 _ hs2) Ha22.out hne w
        clear hne hs2 hs2e
        have C2 := Lib.hid c2; clear c2
        have Hf3 := Lib.hid hf3; clear hf3
        have Hfo := Lib.hid hfo; clear hfo
        have Ht2 := Lib.hid ht2; clear ht2
        refine wp_region_noPanic ?_
        refine wp_region_go 99 5 #[ff,ff,ff,ff,ff] (by kernel_rfl) rfl rfl ?_
        intro W4 hW4
        rw [← hW4] at P0 P1 P5 HB3
        clear hW4
        refine go_take2 0 31 #[tt,ff,ff,ff,ff] rfl rfl rfl (by kernel_rfl) (yieldsIf_load_row (by rfl) 40 _ rfl (B5) rfl 40 (r22 r2) (fun _ h => P5.out.below h P5.out.lt) Try.underlying40 rfl (by rw [r22_size]; kernel_rfl)) ((below_dr W4)) ?_
        (try simp only [sI, sS, sZ])
        refine go_take2 1 32 #[tt,tt,ff,ff,ff] rfl rfl rfl (by kernel_rfl) (yieldsIf_load_row (by rfl) 40 _ rfl (B5) rfl 40 (r22 r2) (fun _ h => P5.out.below h P5.out.lt) Try.underlying40 rfl (by rw [r22_size]; kernel_rfl)) ((below_dr W4)) ?_
        (try simp only [sI, sS, sZ])
        refine go_take2 3 34 #[tt,tt,ff,tt,ff] rfl rfl rfl (by kernel_rfl) (yieldsIf_load_row (by rfl) 40 _ rfl (w.heap.size) rfl 40 (r22 a) (fun _ h => P0.out.below h P0.out.lt) Try.underlying40 rfl (by rw [r22_size]; kernel_rfl)) ((below_dr W4)) ?_
        (try simp only [sI, sS, sZ])
        refine wpBut_r1 (i := 2) (by kernel_rfl) ?_
        refine go_call 2 33 #[tt,tt,tt,tt,ff] rfl rfl rfl (by rfl) rfl rfl (by rfl) ent32 (by rfl) (Ht2.out _) ?_
        rintro e wW41 ⟨rfl, hb⟩
        have hkW41 := held_next (below_dr W4) hb
        refine ⟨_, rfl, fun _ => hkW41, ?_⟩
        clear hb
        (try simp only [sI, sS, sZ])
        refine go_take2 4 35 #[tt,tt,tt,tt,tt] (v := ?uv6) rfl rfl rfl (by kernel_rfl) (Or.inl ⟨by rfl, ?uy6⟩) (hkW41) ?urest6
        case uy6 => (intro _ _; go_simp; try with_reducible rfl)
        (try simp only [sI, sS, sZ])
        refine wpBut_done (by kernel_rfl) (NoPanic.normal ?_)
        replace P0 := Lib.hid (P0.out.call hkW41)
        replace P1 := Lib.hid (P1.out.call hkW41)
        replace P5 := Lib.hid (P5.out.call hkW41)
        replace HB3 := Lib.hid (held_next HB3.out hkW41)
        clear heq
        repeat ((fail_if_success (with_reducible (show wpList _ _ _ _ _ _))); go_step)
        refine wpList_step (fun K hK => ?_)
        go_simp
        (try go_bits)
        rw [Hz0.out]
        refine hK _ _ ?_
        clear hK K
        first | (obtain ⟨Zq, hZ, mZ⟩ := P1.out) | (obtain ⟨Zq, hZ, mZ⟩ := P1.out.toN (r22_size _))
        clear P1
        have hZ' := Lib.hid hZ; clear hZ
        have mZ' := Lib.hid mZ; clear mZ
        refine wpList_store_row rfl 40 _ _ rfl (w.heap.size + 1) _ rfl rfl 40 Zq mZ'.out (by rw [r22_size]; kernel_rfl) (hZ'.out.trans (r22_size _).symm) (row_one _ _ _) ?_
        (try simp only [Act.put, sI, sS, sZ])
        replace P0 := Lib.hid (P0.out.setRow_other (w.heap.size + 1) (r22 0) (by omega))
        replace P5 := Lib.hid (P5.out.setRow_other (w.heap.size + 1) (r22 0) (by omega))
        have P1 := Lib.hid (mZ'.out.setRow (r22 0))
        clear mZ' hZ'
        replace HB3 := Lib.hid (below_setRow HB3.out (w.heap.size + 1) (r22 0) (by omega))
        (refine wpList_step (fun K hK => ?_); go_simp; (try go_bits); refine hK _ _ ?_; clear hK K)
        refine wpList_nil ?_
        go_wp2_with fail
        exact bodyPost_ret (v := .tuple #[.agg (r22 0), .bool false]) (results_cell_tmp_row (fn := Try.f45) (p := 2) (t2 := 3) (ty := 40) (t := 40) (by rfl) _ _ (w.heap.size + 1) _ _ _ rfl P1.out Try.underlying40 rfl (by rw [r22_size]; kernel_rfl)) rfl ⟨by rw [Hf3.out, Hfo.out], HB3.out⟩
end Go.Proofs.Ytjiagjonlcadiaa
end
section
namespace Go.Proofs.Ytjiagjonlcadiaa

/-- is a number a square: its power to half of the prime less 1 -/
def chi (a : Nat) : Nat := pwm a ((PP - 1) / 2)
theorem chi_sq (a : Nat) (ha : a % PP ≠ 0) : chi a * chi a % PP = 1 := by
  unfold chi
  rw [← pwm_add, show (PP - 1) / 2 + (PP - 1) / 2 = PP - 1 by decide +kernel]
  exact little a ha
theorem one_sq (t : Nat) (ht : t < PP) (h : t * t % PP = 1) : t = 1 ∨ t = PP - 1 := by
  have h1 : (1 : Nat) < PP := by have := PP_val; omega
  have hb : (1 : Nat) * 1 % PP = 1 := Nat.mod_eq_of_lt h1
  rcases sq_eq t 1 ht h1 (h.trans hb.symm) with h2 | h2
  · exact .inl h2
  · right
    by_cases hh : t + 1 < PP
    · rw [Nat.mod_eq_of_lt hh] at h2; omega
    · omega
theorem pwm_pm (b e : Nat) (h : e < 2 ^ 256) : pwm b e = Nm.pm PP 256 b e := (Nm.pm_eq PP 256 b e h).symm
theorem rti_e : (PP - 1 % PP) / 2 / 2 + (PP - 1 % PP) / 2 / 2 < 2 ^ 256 := by decide +kernel
theorem rti_pm : Nm.pm PP 256 (2 % PP) ((PP - 1 % PP) / 2 / 2 + (PP - 1 % PP) / 2 / 2) = PP - 1 := by decide +kernel
theorem pw_dbl (x b E r : Nat) (hx : x = pwm b E) (h1 : E + E < 2 ^ 256) (h2 : Nm.pm PP 256 b (E + E) = r) : x * x % PP = r := by
  rw [hx, ← pwm_add, pwm_pm _ _ h1, h2]
theorem rti_def : rti = pwm (2 % PP) ((PP - 1 % PP) / 2 / 2) := by delta rti; exact rfl
theorem rti_sq : rti * rti % PP = PP - 1 := pw_dbl rti (2 % PP) ((PP - 1 % PP) / 2 / 2) (PP - 1) rti_def rti_e rti_pm
theorem mul_four (x y m : Nat) : x * y % m * (x * y % m) % m = (x * x % m) * (y * y % m) % m := by
  rw [← Nat.mul_mod, ← Nat.mul_mod]; congr 1; ac_rfl
theorem neg_mul (a b : Nat) (hb : b < PP) : a * (PP - b) % PP = (PP - a * b % PP) % PP := by
  have h1 := Nat.div_add_mod (a * b) PP
  have h2 : a * b % PP < PP := Nat.mod_lt _ PP_pos
  have e : a * (PP - b) + a * b = a * PP := by rw [← Nat.mul_add]; congr 1; omega
  generalize a * b % PP = m at *
  generalize a * b / PP = q at *
  have hle : q ≤ a := by
    by_cases hq : q ≤ a
    · exact hq
    · have h3 : PP * (a + 1) ≤ PP * q := Nat.mul_le_mul_left _ (by omega)
      have h4 : a * b ≤ a * PP := Nat.mul_le_mul_left _ (by omega)
      rw [Nat.mul_add, Nat.mul_comm PP a] at h3
      have := PP_pos
      omega
  obtain ⟨d, rfl⟩ : ∃ d, a = q + d := ⟨a - q, by omega⟩
  have e2 : (q + d) * PP = PP * q + PP * d := by rw [Nat.mul_comm, Nat.mul_add]
  by_cases hm : m = 0
  · subst hm
    have : (q + d) * (PP - b) = PP * d := by omega
    rw [this, Nat.mul_mod_right, Nat.sub_zero, Nat.mod_self]
  · have hd : 0 < d := by
      rcases Nat.eq_zero_or_pos d with h0 | h0
      · subst h0
        have h5 : (q + 0) * b ≤ (q + 0) * PP := Nat.mul_le_mul_left _ (Nat.le_of_lt hb)
        rw [e2, Nat.mul_zero] at h5
        omega
      · exact h0
    obtain ⟨f, rfl⟩ : ∃ f, d = f + 1 := ⟨d - 1, by omega⟩
    have : (q + (f + 1)) * (PP - b) = PP - m + PP * f := by
      rw [Nat.mul_add PP f 1] at e2; omega
    rw [this, Nat.add_mul_mod_self_left]

/-- the square of the first try: the number times its power to a quarter of the prime less 1 -/
theorem rt1_sq (a : Nat) : rt1 a * rt1 a % PP = a * pwm a ((PP - 1) / 4) % PP := by
  unfold rt1
  rw [← pwm_add, show (PP + 3) / 2 / 2 / 2 + (PP + 3) / 2 / 2 / 2 = (PP - 1) / 4 + 1 by decide +kernel, pwm_succ, Nat.mul_comm]
theorem rtok_of_chi (a : Nat) (ha : a < PP) (h : chi a = 1) : rtok a = true := by
  have h4 : pwm a ((PP - 1) / 4) * pwm a ((PP - 1) / 4) % PP = 1 := by
    rw [← pwm_add, show (PP - 1) / 4 + (PP - 1) / 4 = (PP - 1) / 2 by decide +kernel]; exact h
  have hs := rt1_sq a
  unfold rtok rt2
  rcases one_sq _ (pwm_lt _ _) h4 with h5 | h5
  · rw [h5, Nat.mul_one, Nat.mod_eq_of_lt ha] at hs
    rw [if_pos hs, hs]; exact decide_eq_true rfl
  · rw [h5] at hs
    by_cases hc : rt1 a * rt1 a % PP = a
    · rw [if_pos hc, hc]; exact decide_eq_true rfl
    · rw [if_neg hc]
      have e := mul_four (rt1 a) rti PP
      have h1 : (1 : Nat) < PP := by have := PP_val; omega
      have h6 : rt1 a * rt1 a % PP = (PP - a) % PP := by
        rw [hs, neg_mul a 1 h1, Nat.mul_one, Nat.mod_eq_of_lt ha]
      have h7 : (PP - a) % PP * (PP - 1) % PP = a := by
        rw [neg_mul _ 1 h1, Nat.mul_one, Nat.mod_mod]
        by_cases h0 : a = 0
        · subst h0; rw [Nat.sub_zero, Nat.mod_self, Nat.sub_zero, Nat.mod_self]
        · rw [Nat.mod_eq_of_lt (show PP - a < PP by omega), show PP - (PP - a) = a by omega, Nat.mod_eq_of_lt ha]
      rw [e, h6, rti_sq, h7]; exact decide_eq_true rfl
theorem rtok_zero (a : Nat) (ha : a = 0) : rtok a = true := by
  have h : rt1 a * rt1 a % PP = a := by rw [rt1_sq, ha, Nat.zero_mul, Nat.zero_mod]
  unfold rtok rt2
  rw [if_pos h]; exact decide_eq_true h

theorem rt1_lt (a : Nat) : rt1 a < PP := by unfold rt1; exact pwm_lt _ _
theorem rt2_lt (a : Nat) : rt2 a < PP := by
  unfold rt2
  by_cases h : rt1 a * rt1 a % PP = a
  · rw [if_pos h]; exact rt1_lt a
  · rw [if_neg h]; exact Nat.mod_lt _ PP_pos
theorem neg_neg_mod (x : Nat) (h : x < PP) : (PP - (PP - x) % PP) % PP = x := by
  by_cases h0 : x = 0
  · rw [h0, Nat.sub_zero, Nat.mod_self, Nat.sub_zero, Nat.mod_self]
  · rw [Nat.mod_eq_of_lt (show PP - x < PP by omega), show PP - (PP - x) = x by omega, Nat.mod_eq_of_lt h]
theorem neg_sq (r : Nat) (h : r < PP) : (PP - r) * (PP - r) % PP = r * r % PP := by
  rw [neg_mul _ r h, Nat.mul_comm, neg_mul _ r h]
  exact neg_neg_mod _ (Nat.mod_lt _ PP_pos)
theorem rt3_sq (a : Nat) (h : rtok a = true) : rt3 a * rt3 a % PP = a := by
  have h2 : rt2 a * rt2 a % PP = a := of_decide_eq_true (show decide (rt2 a * rt2 a % PP = a) = true from h)
  unfold rt3
  rw [if_pos h]
  by_cases ho : rt2 a % 2 = 1
  · rw [if_pos ho, neg_sq _ (rt2_lt a), h2]
  · rw [if_neg ho, h2]
theorem PP_odd : PP % 2 = 1 := by decide +kernel
theorem rt3_even (a : Nat) : rt3 a % 2 = 0 := by
  unfold rt3
  have h1 := rt2_lt a
  have h2 := PP_odd
  by_cases h : rtok a = true
  · rw [if_pos h]
    by_cases ho : rt2 a % 2 = 1
    · rw [if_pos ho]; omega
    · rw [if_neg ho]; omega
  · rw [if_neg h]
theorem rt3_lt (a : Nat) : rt3 a < PP := by
  unfold rt3
  have h1 := rt2_lt a
  have h2 := PP_pos
  by_cases h : rtok a = true
  · rw [if_pos h]
    by_cases ho : rt2 a % 2 = 1
    · rw [if_pos ho]; omega
    · rw [if_neg ho]; exact h1
  · rw [if_neg h]; exact h2
theorem chi_mod (a : Nat) : chi (a % PP) = chi a := by unfold chi; exact pwm_mod _ _
theorem chi_mul (a b : Nat) : chi (a * b) = chi a * chi b % PP := by unfold chi; exact pwm_mulbase _ _ _
theorem rtok_sq (u : Nat) : rtok (u * u % PP) = true := by
  by_cases h0 : u % PP = 0
  · exact rtok_zero _ (by rw [Nat.mul_mod, h0, Nat.zero_mul, Nat.zero_mod])
  · exact rtok_of_chi _ (Nat.mod_lt _ PP_pos) (by rw [chi_mod, chi_mul]; exact chi_sq u h0)
theorem rt3_root (u : Nat) : rt3 (u * u % PP) = u % PP ∨ (rt3 (u * u % PP) + u) % PP = 0 := by
  have h := rt3_sq _ (rtok_sq u)
  rcases sq_eq (rt3 (u * u % PP)) (u % PP) (rt3_lt _) (Nat.mod_lt _ PP_pos) (h.trans (Nat.mul_mod u u PP)) with h1 | h1
  · exact .inl h1
  · right; rw [Nat.add_mod_mod] at h1; exact h1
end Go.Proofs.Ytjiagjonlcadiaa
end
