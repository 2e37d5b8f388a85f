/- The program's field: least. -/
import Derived.Test.YtjiagjonlcadiaaFldF
import Derived.Laws.Bits64b
namespace Go.Proofs.Ytjiagjonlcadiaa
open Go.RowKit Go.Lib

theorem e4_small (x : Nat) (hx : x < 18446744073709551616) : (#[.int .u64 (x : Int), .int .u64 0, .int .u64 0, .int .u64 0] : Array Value) = e4 x := by
  have : e4 x = row .u64 4 (fun i => if i = 0 then (x : Int) else 0) := row_ext _ _ _ _ fun i hi => by
    unfold dg
    split
    · rename_i h; subst h; rw [Nat.pow_zero, Nat.div_one, Nat.mod_eq_of_lt hx]
    · rw [Nat.div_eq_of_lt (Nat.lt_of_lt_of_le hx (by
        have : 18446744073709551616 ^ 1 ≤ 18446744073709551616 ^ i := Nat.pow_le_pow_right (by decide) (by omega)
        simpa using this))]; rfl
  rw [this]; rfl
theorem top_word (A : Nat) (hA : A < 115792089237316195423570985008687907853269984665640564039457584007913129639936) : ∃ t : Nat, dg 18446744073709551616 A 3 = t ∧ t < 18446744073709551616 ∧ t / 9223372036854775808 = A / 57896044618658097711785492504343953926634992332820282019728792003956564819968 := by
  refine ⟨A / 18446744073709551616 ^ 3 % 18446744073709551616, rfl, Nat.mod_lt _ (by decide), ?_⟩
  have hp : (18446744073709551616 : Nat) ^ 3 = 6277101735386680763835789423207666416102355444464034512896 := by decide +kernel
  rw [hp]; omega
theorem least_round (A : Nat) : (A % 57896044618658097711785492504343953926634992332820282019728792003956564819968 + 19 * (A / 57896044618658097711785492504343953926634992332820282019728792003956564819968)) % PP = A % PP := by
  have e : 57896044618658097711785492504343953926634992332820282019728792003956564819968 = 19 + PP := by decide +kernel
  have h1 := Nat.div_add_mod A 57896044618658097711785492504343953926634992332820282019728792003956564819968
  generalize A % 57896044618658097711785492504343953926634992332820282019728792003956564819968 = x at *
  generalize A / 57896044618658097711785492504343953926634992332820282019728792003956564819968 = q at *
  rw [← h1, e, Nat.add_mul, show 19 * q + PP * q + x = x + 19 * q + PP * q by omega, Nat.add_mul_mod_self_left]

set_option maxRecDepth 100000 in
set_option maxHeartbeats 4000000 in
theorem fleast_any (n : Nat) (hn : n < 115792089237316195423570985008687907853269984665640564039457584007913129639936) (w : World) :
    Calls Try.prog 79 #[.agg (e4 n)] w fun e w' => e = .returned (.agg (e4 (n % PP))) ∧ Below w.heap.size w w' := by
  obtain ⟨r, hr⟩ : ∃ r, r = n % PP := ⟨_, rfl⟩
  rw [← hr]
  have Hn := Lib.hid hn; clear hn
  have Hr := Lib.hid hr; clear hr
  go_enter Try.func79, Try.ntmps79
  go_wp2_with fail
  go_loopw [5] (fun i wr => ∃ k A : Nat, k ≤ 2 ∧ i = .int .i64 k ∧ A % PP = r ∧ A < 115792089237316195423570985008687907853269984665640564039457584007913129639936 ∧ (1 ≤ k → A < 57896044618658097711785492504343953926634992332820282019728792003956564819987) ∧ (2 ≤ k → A < 57896044618658097711785492504343953926634992332820282019728792003956564819968) ∧ Has wr w.heap.size (e4 A) 36 ∧ HasN wr (w.heap.size + 1) 4 36 ∧ Below w.heap.size w wr) (fun i _ => 2 - (intOf i).toNat)
  case atStart => exact ⟨0, n, by omega, rfl, Hr.out.symm, Hn.out, fun h => by omega, fun h => by omega, (Has.new _ _ _).alloc _, HasN.new1 _ _ _ _ 4 rfl, below_2 _ _ _⟩
  case round =>
    obtain ⟨k, A, hk, rfl, hA, hA2, hk1, hk2, m0, m1, hB⟩ := hrel
    have M0 := Lib.hid m0; clear m0
    have M1 := Lib.hid m1; clear m1
    have HA := Lib.hid hA; clear hA
    have Hk1 := Lib.hid hk1; clear hk1
    have Hk2 := Lib.hid hk2; clear hk2
    by_cases hlt : k < 2
    · have h2 := M0.out.cell 3 (by omega)
      have hfz := M0.out.frozen 3
      obtain ⟨t, ht, htb, hov⟩ := top_word A hA2
      rw [ht] at h2
      have hand := and_top t htb
      have hrow := top_row A hA2 (dg 18446744073709551616 A) (fun _ _ => rfl) t ht
      obtain ⟨u, hu⟩ : ∃ u : Int, u = ((t % 9223372036854775808 : Nat) : Int) := ⟨_, rfl⟩
      rw [← hu] at hand hrow
      have m2 := M0.out.set 3 u
      rw [hrow] at m2
      have hlr := least_round A
      obtain ⟨B, hBe⟩ : ∃ B, B = A % 57896044618658097711785492504343953926634992332820282019728792003956564819968 := ⟨_, rfl⟩
      obtain ⟨o, ho⟩ : ∃ o, o = A / 57896044618658097711785492504343953926634992332820282019728792003956564819968 := ⟨_, rfl⟩
      rw [← hBe] at m2 hlr
      rw [← ho] at hlr hov
      have ho1 : o ≤ 1 := by omega
      have hB255 : B < 57896044618658097711785492504343953926634992332820282019728792003956564819968 := by omega
      have hshr : ((t : Nat) : Int) / 9223372036854775808 = (o : Int) := by omega
      have hpe := fun w => plus_exact B (19 * o) (by omega) (by omega) (by omega) w
      have hbl := e4_small (19 * o) (by omega)
      rw [Int.natCast_mul] at hbl
      have hbl' : (#[.int .u64 (19 * (o : Int)), .int .u64 0, .int .u64 0, .int .u64 0] : Array Value) = e4 (19 * o) := hbl
      obtain ⟨q, hq⟩ : ∃ q, q = 19 * o := ⟨_, rfl⟩
      obtain ⟨A', hA'⟩ : ∃ x, x = B + q := ⟨_, rfl⟩
      rw [← hq] at hpe hbl' hlr
      rw [← hA'] at hpe hlr
      have hk1' : 1 ≤ k + 1 → A' < 57896044618658097711785492504343953926634992332820282019728792003956564819987 := fun _ => by omega
      have hk2' : 2 ≤ k + 1 → A' < 57896044618658097711785492504343953926634992332820282019728792003956564819968 := fun hh => by have := Hk1.out (by omega); omega
      have hA2' : A' < 115792089237316195423570985008687907853269984665640564039457584007913129639936 := by omega
      have Hmod := Lib.hid (show A' % PP = r by rw [hlr]; exact HA.out)
      have M1' := Lib.hid (M1.out.other ⟨w.heap.size, 3, none⟩ (.int .u64 u) (by simp <;> omega))
      have HB' := Lib.hid (hB.setCell (p := ⟨w.heap.size, 3, none⟩) (Nat.le_refl _) (.int .u64 u))
      have Hpe := Lib.hid hpe; clear hpe
      have Hk1' := Lib.hid hk1'; clear hk1'
      have Hk2' := Lib.hid hk2'; clear hk2'
      have HA2' := Lib.hid hA2'; clear hA2'
      have M2 := Lib.hid m2; clear m2
      clear hA' hq hbl ho hBe hlr hrow hu hov M0 M1 hA2 hB
      go_wp2_with (refine wpList_load_row rfl 36 _ rfl (w.heap.size) rfl 36 (e4 B) (0, 0) _ M2.out Try.underlying36 rfl (by rw [e4_size]; kernel_rfl) ?_)
      refine (Hpe.out _).mono ?_
      rintro e w1 ⟨rfl, b1⟩
      have n1 := M1'.out.call b1
      obtain ⟨Z, hZ, mz⟩ := (M2.out.toN (e4_size _)).call b1
      have hB2 := held_next HB'.out b1
      have q0 := mz.setRow (e4 A')
      have q1 := n1.setRow_other w.heap.size (e4 A') (by omega)
      have hB3 := below_setRow hB2 w.heap.size (e4 A') (Nat.le_refl _)
      clear n1 b1 hB2
      have Mz := Lib.hid mz; clear mz
      have HZ := Lib.hid hZ; clear hZ
      have Q0 := Lib.hid q0; clear q0
      have Q1 := Lib.hid q1; clear q1
      have HB3 := Lib.hid hB3; clear hB3
      go_wp2_with (refine wpList_store_row rfl 36 _ _ rfl (w.heap.size) _ rfl rfl 36 Z Mz.out (by rw [e4_size]; kernel_rfl) (HZ.out.trans (e4_size _).symm) (row_one _ _ _) ?_)
      go_roundw
      case measure => simp [intOf]; omega
      case rel => exact ⟨k + 1, A', by omega, by go_num, Hmod.out, HA2'.out, Hk1'.out, Hk2'.out, Q0.out, Q1.out, HB3.out⟩
    · obtain rfl : k = 2 := by omega
      have h255 := Hk2.out (by omega)
      have hpe := fun w => plus_exact A 19 hA2 (by omega) (by omega) w
      have hbl := e4_small 19 (by omega)
      have hbl' : (#[.int .u64 19, .int .u64 0, .int .u64 0, .int .u64 0] : Array Value) = e4 19 := hbl
      obtain ⟨b, hb⟩ : ∃ b, b = A + 19 := ⟨_, rfl⟩
      rw [← hb] at hpe
      have hb256 : b < 115792089237316195423570985008687907853269984665640564039457584007913129639936 := by omega
      have Hpe := Lib.hid hpe; clear hpe
      have Hb := Lib.hid hb; clear hb
      clear hbl
      go_wp2_with (refine wpList_load_row rfl 36 _ rfl (w.heap.size) rfl 36 (e4 A) (0, 0) _ M0.out Try.underlying36 rfl (by rw [e4_size]; kernel_rfl) ?_)
      refine (Hpe.out _).mono ?_
      rintro e w1 ⟨rfl, b1⟩
      have n0 := (M0.out.call b1).alloc (.cells (#[.int .u64 0, .int .u64 0, .int .u64 0, .int .u64 0] : Array Value) 36)
      have n1 := (M1.out.call b1).alloc (.cells (#[.int .u64 0, .int .u64 0, .int .u64 0, .int .u64 0] : Array Value) 36)
      have hB2 := (held_next hB b1).alloc (held_next hB b1).size (.cells (#[.int .u64 0, .int .u64 0, .int .u64 0, .int .u64 0] : Array Value) 36)
      have hl1 := (M1.out.call b1).lt
      obtain ⟨Z, hZ, mz⟩ := HasN.new w1 (#[.int .u64 0, .int .u64 0, .int .u64 0, .int .u64 0] : Array Value) 36 4 rfl
      have q0 := n0.setRow_other w1.heap.size (e4 b) (by omega)
      have q1 := n1.setRow_other w1.heap.size (e4 b) (by omega)
      have q2 := mz.setRow (e4 b)
      have hB3 := below_setRow hB2 w1.heap.size (e4 b) (held_next hB b1).size
      have h2 := q2.cell 3 (by omega)
      have hfz := q2.frozen 3
      obtain ⟨t, ht, htb, hov⟩ := top_word b hb256
      rw [ht] at h2
      by_cases hc : b < 57896044618658097711785492504343953926634992332820282019728792003956564819968
      · have hz : (t : Int) / 9223372036854775808 = 0 := by omega
        have hfin : A = r := by
          have := HA.out
          rw [Nat.mod_eq_of_lt (by rw [PP_val]; have := Hb.out; omega)] at this
          exact this
        obtain ⟨Z', hZ', mz'⟩ := q1
        have HBB := Lib.hid (below_setRow hB3 (w.heap.size + 1) (e4 A) (by omega))
        have Mz := Lib.hid mz; clear mz
        have HZ := Lib.hid hZ; clear hZ
        have Q0 := Lib.hid q0; clear q0
        have Q2 := Lib.hid q2; clear q2
        have Mz' := Lib.hid mz'; clear mz'
        have HZ' := Lib.hid hZ'; clear hZ'
        have Hfin := Lib.hid hfin; clear hfin
        have Ht := Lib.hid ht; clear ht
        clear n0 n1 hB2 hB3 b1 M0 M1 hc hov
        go_wp2_with (first | (refine wpList_store_row rfl 36 _ _ rfl (w1.heap.size) _ rfl rfl 36 Z Mz.out (by rw [e4_size]; kernel_rfl) (HZ.out.trans (e4_size _).symm) (row_one _ _ _) ?_) | (refine wpList_load_row rfl 36 _ rfl (w.heap.size) rfl 36 (e4 A) (0, 0) _ Q0.out Try.underlying36 rfl (by rw [e4_size]; kernel_rfl) ?_) | (refine wpList_store_row rfl 36 _ _ rfl (w.heap.size + 1) _ rfl rfl 36 Z' Mz'.out (by rw [e4_size]; kernel_rfl) (HZ'.out.trans (e4_size _).symm) (row_one _ _ _) ?_))
        exact bodyPost_ret (v := .agg (e4 A)) (results_cell_row (t := 36) (by rfl) _ _ (w.heap.size + 1) _ _ _ rfl (Mz'.out.setRow _) Try.underlying36 rfl (by rw [e4_size]; kernel_rfl)) rfl ⟨by rw [Hfin.out], HBB.out⟩
      · have hz : (t : Int) / 9223372036854775808 = 1 := by omega
        have hand := and_top t htb
        have hrow := top_row b hb256 (dg 18446744073709551616 b) (fun _ _ => rfl) t ht
        obtain ⟨u, hu⟩ : ∃ u : Int, u = ((t % 9223372036854775808 : Nat) : Int) := ⟨_, rfl⟩
        rw [← hu] at hand hrow
        have q3 := q2.set 3 u
        rw [hrow] at q3
        have hfin : b % 57896044618658097711785492504343953926634992332820282019728792003956564819968 = r := by
          rw [← HA.out, Nat.mod_eq_sub_mod (show PP ≤ A by rw [PP_val]; have := Hb.out; omega), Nat.mod_eq_of_lt (show A - PP < PP by rw [PP_val]; omega), PP_val]
          have := Hb.out; omega
        rw [hfin] at q3
        obtain ⟨Z', hZ', mz'⟩ := q1.other ⟨w1.heap.size, 3, none⟩ (.int .u64 u) (by simp <;> omega)
        have HBB := Lib.hid (below_setRow (hB3.setCell (p := ⟨w1.heap.size, 3, none⟩) (held_next hB b1).size (.int .u64 u)) (w.heap.size + 1) (e4 r) (by omega))
        have Mz := Lib.hid mz; clear mz
        have HZ := Lib.hid hZ; clear hZ
        have Q2 := Lib.hid q2; clear q2
        have Q3 := Lib.hid q3; clear q3
        have Mz' := Lib.hid mz'; clear mz'
        have HZ' := Lib.hid hZ'; clear hZ'
        have Hfin := Lib.hid hfin; clear hfin
        have Ht := Lib.hid ht; clear ht
        clear n0 n1 hB2 hB3 b1 M0 M1 hc hov hu hrow
        go_wp2_with (first | (refine wpList_store_row rfl 36 _ _ rfl (w1.heap.size) _ rfl rfl 36 Z Mz.out (by rw [e4_size]; kernel_rfl) (HZ.out.trans (e4_size _).symm) (row_one _ _ _) ?_) | (refine wpList_load_row rfl 36 _ rfl (w1.heap.size) rfl 36 (e4 r) (0, 0) _ Q3.out Try.underlying36 rfl (by rw [e4_size]; kernel_rfl) ?_) | (refine wpList_store_row rfl 36 _ _ rfl (w.heap.size + 1) _ rfl rfl 36 Z' Mz'.out (by rw [e4_size]; kernel_rfl) (HZ'.out.trans (e4_size _).symm) (row_one _ _ _) ?_))
        exact bodyPost_ret (v := .agg (e4 r)) (results_cell_row (t := 36) (by rfl) _ _ (w.heap.size + 1) _ _ _ rfl (Mz'.out.setRow _) Try.underlying36 rfl (by rw [e4_size]; kernel_rfl)) rfl ⟨rfl, HBB.out⟩
end Go.Proofs.Ytjiagjonlcadiaa
