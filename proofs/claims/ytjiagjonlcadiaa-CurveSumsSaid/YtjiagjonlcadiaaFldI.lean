/- The program's field: Int, squares, and the function that power makes. -/
import Derived.Test.YtjiagjonlcadiaaFldH
namespace Go.Proofs.Ytjiagjonlcadiaa
open Go.RowKit Go.Lib

set_option maxRecDepth 100000 in
set_option maxHeartbeats 1000000 in
theorem fint_nn (n : Nat) (hn : n < 9223372036854775808) (w : World) :
    Calls Try.prog 34 #[.int .i64 n] w fun e w' => e = .returned (.agg (e4 n)) ∧ Below w.heap.size w w' := by
  have hbl := e4_small n (by omega)
  obtain ⟨Z, hZ, mz⟩ := HasN.new w (#[.int .u64 0, .int .u64 0, .int .u64 0, .int .u64 0] : Array Value) 36 4 rfl
  have Mz := Lib.hid mz; clear mz
  have HZ := Lib.hid hZ; clear hZ
  go_enter Try.func34, Try.ntmps34
  go_wp2_with (refine wpList_store_row rfl 36 _ _ rfl (w.heap.size) _ rfl rfl 36 Z Mz.out (by rw [e4_size]; kernel_rfl) (HZ.out.trans (e4_size _).symm) (row_one _ _ _) ?_)
  exact bodyPost_ret (v := .agg (e4 n)) (results_cell_row (t := 36) (by rfl) _ _ (w.heap.size) _ _ _ rfl (Mz.out.setRow _) Try.underlying36 rfl (by rw [e4_size]; kernel_rfl)) rfl ⟨rfl, below_setRow (below_1 _ _) _ _ (Nat.le_refl _)⟩

theorem e4_zero : (#[.int .u64 0, .int .u64 0, .int .u64 0, .int .u64 0] : Array Value) = e4 0 := e4_small 0 (by omega)
theorem e4_one : (#[.int .u64 1, .int .u64 0, .int .u64 0, .int .u64 0] : Array Value) = e4 1 := e4_small 1 (by omega)

set_option maxRecDepth 100000 in
set_option maxHeartbeats 1000000 in
theorem fint_neg (n : Int) (hn : n < 0) (hn2 : -9223372036854775808 ≤ n) (w : World) :
    Calls Try.prog 34 #[.int .i64 n] w (ElP (n % (PP : Int)).toNat w) := by
  obtain ⟨m, hm⟩ : ∃ m : Nat, -(n + 1) = (m : Int) := ⟨(-(n + 1)).toNat, by omega⟩
  have hres := int_num n m (by omega)
  obtain ⟨r, hr⟩ : ∃ r, r = (n % (PP : Int)).toNat := ⟨_, rfl⟩
  rw [← hr] at hres ⊢
  have hm0 : m < 9223372036854775808 := by omega
  have hmin1 := fun w => minus_any 0 m (by omega) (by omega) w
  rw [show 0 % PP = 0 from Nat.zero_mod _] at hmin1
  obtain ⟨y, hy⟩ : ∃ y, y = (0 + (PP - m % PP)) % PP := ⟨_, rfl⟩
  rw [← hy] at hmin1 hres
  have hmin2 := fun m1 h w => minus_any m1 1 h (by omega) w
  have hbl := e4_small m (by omega)
  have hb0 := e4_zero
  have hb1 := e4_one
  have Hmin1 := Lib.hid hmin1; clear hmin1
  have Hmin2 := Lib.hid hmin2; clear hmin2
  have Hres := Lib.hid hres; clear hres
  have Hm := Lib.hid hm; clear hm
  have Hbl := Lib.hid hbl; clear hbl
  have Hb0 := Lib.hid hb0; clear hb0
  have Hb1 := Lib.hid hb1; clear hb1
  clear hr hy hm0
  have hd : decide (0 ≤ n) = false := by simp; omega
  go_enter Try.func34, Try.ntmps34
  go_wp2_with fail
  rw [Hm.out, Hbl.out, Hb0.out]
  refine (Hmin1.out _).mono ?_
  rintro e w1 ⟨m1, hm1, hm1r, rfl, b1⟩
  have B1 := Lib.hid b1; clear b1
  have Hm1 := Lib.hid hm1; clear hm1
  have Hm1r := Lib.hid hm1r; clear hm1r
  go_wp2_with fail
  refine (Hmin2.out m1 Hm1.out _).mono ?_
  rintro e w2 ⟨m2, hm2, hm2r, rfl, b2⟩
  obtain ⟨Z, hZ, mz⟩ := ((HasN.new w (e4 0) 36 4 (e4_size _)).call B1.out).call b2
  have HBB := Lib.hid (below_setRow (held_next (held_next (below_1 w (.cells (e4 0) 36)) B1.out) b2) w.heap.size (e4 m2) (Nat.le_refl _))
  have hfin : m2 % PP = r := by rw [hm2r, Hm1r.out]; exact Hres.out
  have Mz := Lib.hid mz; clear mz
  have HZ := Lib.hid hZ; clear hZ
  have Hm2 := Lib.hid hm2; clear hm2
  have Hfin := Lib.hid hfin; clear hfin
  clear hm2r b2
  go_wp2_with (refine wpList_store_row rfl 36 _ _ rfl (w.heap.size) _ rfl rfl 36 Z Mz.out (by rw [e4_size]; kernel_rfl) (HZ.out.trans (e4_size _).symm) (row_one _ _ _) ?_)
  exact bodyPost_ret (v := .agg (e4 m2)) (results_cell_row (t := 36) (by rfl) _ _ (w.heap.size) _ _ _ rfl (Mz.out.setRow _) Try.underlying36 rfl (by rw [e4_size]; kernel_rfl)) rfl ⟨m2, Hm2.out, Hfin.out, rfl, HBB.out⟩

theorem sq_next (A a k : Nat) (h : A % PP = pwm a (2 ^ k)) : A * A % PP = pwm a (2 ^ (k + 1)) := by
  unfold pwm at *
  rw [Nat.mul_mod, h, ← Nat.mul_mod, ← Nat.pow_add, Nat.pow_succ, Nat.mul_two]

set_option maxRecDepth 100000 in
set_option maxHeartbeats 1000000 in
theorem squares_any (a n : Nat) (ha : a < 115792089237316195423570985008687907853269984665640564039457584007913129639936) (hn : n ≤ 1000) (w : World) :
    Calls Try.prog 83 #[.agg (e4 a), .int .i64 n] w (ElP (pwm a (2 ^ n)) w) := by
  have ht := fun x h w => times_any x x h h w
  have h0 : a % PP = pwm a (2 ^ 0) := by unfold pwm; rw [Nat.pow_zero, Nat.pow_one]
  have Ht := Lib.hid ht; clear ht
  have Ha := Lib.hid ha; clear ha
  have H0 := Lib.hid h0; clear h0
  go_enter Try.func83, Try.ntmps83
  go_wp2_with fail
  go_loopw [6] (fun i wr => ∃ k A : Nat, k ≤ n ∧ i = .int .i64 k ∧ A < 115792089237316195423570985008687907853269984665640564039457584007913129639936 ∧ A % PP = pwm a (2 ^ k) ∧ Has wr w.heap.size (e4 A) 36 ∧ HasN wr (w.heap.size + 1) 4 36 ∧ Below w.heap.size w wr) (fun i _ => n - (intOf i).toNat)
  case atStart => exact ⟨0, a, by omega, rfl, Ha.out, H0.out, (Has.new _ _ _).alloc _, HasN.new1 _ _ _ _ 4 rfl, below_2 _ _ _⟩
  case round =>
    obtain ⟨k, A, hk, rfl, hA, hm, m0, m1, hB⟩ := hrel
    have M0 := Lib.hid m0; clear m0
    have M1 := Lib.hid m1; clear m1
    have HA := Lib.hid hA; clear hA
    have Hm := Lib.hid hm; clear hm
    by_cases hlt : k < n
    · go_wp2_with (refine wpList_load_row rfl 36 _ rfl (w.heap.size) rfl 36 (e4 A) (0, 0) _ M0.out Try.underlying36 rfl (by rw [e4_size]; kernel_rfl) ?_)
      refine (Ht.out A HA.out _).mono ?_
      rintro e w1 ⟨m, hm', hmr, rfl, b1⟩
      obtain ⟨Z, hZ, mz⟩ := (M0.out.toN (e4_size _)).call b1
      have q0 := mz.setRow (e4 m)
      have q1 := (M1.out.call b1).setRow_other w.heap.size (e4 m) (by omega)
      have hB2 := below_setRow (held_next hB b1) w.heap.size (e4 m) (Nat.le_refl _)
      have hmr2 := hmr.trans (sq_next A a k Hm.out)
      have Mz := Lib.hid mz; clear mz
      have HZ := Lib.hid hZ; clear hZ
      have Q0 := Lib.hid q0; clear q0
      have Q1 := Lib.hid q1; clear q1
      have HB2 := Lib.hid hB2; clear hB2
      have Hm' := Lib.hid hm'; clear hm'
      have Hmr2 := Lib.hid hmr2; clear hmr2
      clear b1 hmr M0 M1
      go_wp2_with (refine wpList_store_row rfl 36 _ _ rfl (w.heap.size) _ rfl rfl 36 Z Mz.out (by rw [e4_size]; kernel_rfl) (HZ.out.trans (e4_size _).symm) (row_one _ _ _) ?_)
      go_roundw
      case measure => simp [intOf]; omega
      case rel => exact ⟨k + 1, m, by omega, by go_num, Hm'.out, Hmr2.out, Q0.out, Q1.out, HB2.out⟩
    · obtain rfl : k = n := by omega
      obtain ⟨Z, hZ, mz⟩ := M1.out
      have HBB := Lib.hid (below_setRow hB (w.heap.size + 1) (e4 A) (by omega))
      have Mz := Lib.hid mz; clear mz
      have HZ := Lib.hid hZ; clear hZ
      go_wp2_with (first | (refine wpList_load_row rfl 36 _ rfl (w.heap.size) rfl 36 (e4 A) (0, 0) _ M0.out Try.underlying36 rfl (by rw [e4_size]; kernel_rfl) ?_) | (refine wpList_store_row rfl 36 _ _ rfl (w.heap.size + 1) _ rfl rfl 36 Z Mz.out (by rw [e4_size]; kernel_rfl) (HZ.out.trans (e4_size _).symm) (row_one _ _ _) ?_))
      exact bodyPost_ret (v := .agg (e4 A)) (results_cell_row (t := 36) (by rfl) _ _ (w.heap.size + 1) _ _ _ rfl (Mz.out.setRow _) Try.underlying36 rfl (by rw [e4_size]; kernel_rfl)) rfl ⟨A, HA.out, Hm.out, rfl, HBB.out⟩

theorem pwm_mul (a e A B : Nat) (hA : A % PP = pwm a e) (hB : B % PP = a % PP) : A * B % PP = pwm a (e + 1) := by
  unfold pwm at *
  rw [Nat.mul_mod, hA, hB, ← Nat.mul_mod, Nat.pow_succ]

set_option maxRecDepth 100000 in
set_option maxHeartbeats 1000000 in
theorem grow_any (a n : Nat) (ha : a < 115792089237316195423570985008687907853269984665640564039457584007913129639936) (hn : n ≤ 1000) (w : World) :
    Calls Try.prog 110 #[.agg (e4 a), .int .i64 n] w (ElP (pwm a (2 ^ n + 1)) w) := by
  have hs := fun w => squares_any a n ha hn w
  have ht := fun x h w => times_any x a h ha w
  have Hs := Lib.hid hs; clear hs
  have Ht := Lib.hid ht; clear ht
  clear ha hn
  go_enter Try.func110, Try.ntmps110
  go_wp2_with fail
  refine wp_region_noPanic ?_
  refine wp_region_below 5 (by kernel_rfl) ?_
  intro W0 hW0
  have M0 := Lib.hid (show Has W0 w.heap.size (e4 a) 36 by rw [hW0]; exact (Has.new _ _ _).alloc _)
  have M1 := Lib.hid (show HasN W0 (w.heap.size + 1) 4 36 by rw [hW0]; exact HasN.new1 _ _ _ _ 4 rfl)
  have HB := Lib.hid (show Below w.heap.size w W0 by rw [hW0]; exact below_2 _ _ _)
  clear hW0
  refine wpBut_take (i := 0) rfl (by kernel_rfl) (by kernel_rfl) (by kernel_rfl) (by kernel_rfl) (by kernel_rfl) (fun _ _ _ h => h) (yieldsIf_load_row (by rfl) 36 _ rfl (w.heap.size) rfl 36 (e4 a) (fun _ h => M0.out.below h M0.out.lt) Try.underlying36 rfl (by rw [e4_size]; kernel_rfl)) ((Below.refl _ _).drew) ?_
  (try simp only [Act.put]); (try simp only [List.setIfInBounds_toArray])
  refine wpBut_take (i := 1) (v := ?vv) rfl (by kernel_rfl) (by kernel_rfl) (by kernel_rfl) (by kernel_rfl) (by kernel_rfl) (fun _ _ _ h => h) (Or.inl ⟨by rfl, ?hy⟩) ((Below.refl _ _).drew) ?rest
  case hy => (intro _ _; go_simp; try with_reducible rfl)
  (try simp only [Act.put]); (try simp only [List.setIfInBounds_toArray])
  refine wpBut_take (i := 3) rfl (by kernel_rfl) (by kernel_rfl) (by kernel_rfl) (by kernel_rfl) (by kernel_rfl) (fun _ _ _ h => h) (yieldsIf_load_row (by rfl) 36 _ rfl (w.heap.size) rfl 36 (e4 a) (fun _ h => M0.out.below h M0.out.lt) Try.underlying36 rfl (by rw [e4_size]; kernel_rfl)) ((Below.refl _ _).drew) ?_
  (try simp only [Act.put]); (try simp only [List.setIfInBounds_toArray])
  refine wpBut_one (i := 2) (by kernel_rfl) rfl (fun K hK => ?_)
  go_simp
  go_at_call 83
  refine (Hs.out _).mono ?_
  rintro e wW01 ⟨m1, hm1, hm1r, rfl, hb⟩
  have hkW01 := held_next (Below.refl _ _).drew hb
  refine hK.out _ _ (fun _ => hkW01) ?_
  clear hK K hb
  refine wpBut_one (i := 4) (by kernel_rfl) rfl (fun K hK => ?_)
  go_simp
  go_at_call 31
  refine (Ht.out m1 hm1 _).mono ?_
  rintro e wW02 ⟨m2, hm2, hm2r, rfl, hb⟩
  have hkW02 := held_next hkW01 hb
  refine hK.out _ _ (fun _ => hkW02) ?_
  clear hK K hb
  obtain ⟨Z, hZ, mZ⟩ := M1.out.below hkW02 M1.out.lt
  have MZ := Lib.hid mZ; clear mZ
  have HZ := Lib.hid hZ; clear hZ
  refine wpBut_one (i := 5) (by kernel_rfl) rfl (fun K hK => ?_)
  rw [if_pos (by rfl)]
  refine wp_store_row 36 _ _ rfl (w.heap.size + 1) _ rfl rfl 36 Z MZ.out (by rw [e4_size]; kernel_rfl) (HZ.out.trans (e4_size _).symm) (row_one _ _ _) ?_
  refine hK.out _ _ (fun h => (h rfl).elim) ?_
  clear hK K
  (try simp only [Act.put]); (try simp only [List.setIfInBounds_toArray])
  refine wpBut_done (by kernel_rfl) (NoPanic.normal ?_)
  have hfin := hm2r.trans (pwm_mul a _ m1 a hm1r rfl)
  have HBB := Lib.hid (below_setRow (held_next HB.out hkW02) (w.heap.size + 1) (e4 m2) (by omega))
  have Hfin := Lib.hid hfin; clear hfin
  go_wp2_with fail
  exact bodyPost_ret (v := .agg (e4 m2)) (results_cell_row (t := 36) (by rfl) _ _ (w.heap.size + 1) _ _ _ rfl (MZ.out.setRow _) Try.underlying36 rfl (by rw [e4_size]; kernel_rfl)) rfl ⟨m2, hm2, Hfin.out, rfl, HBB.out⟩
end Go.Proofs.Ytjiagjonlcadiaa
