/- The reference's Int of any number, Power. -/
import Derived.Test.YtjiagjonlcadiaaRefF
namespace Go.Proofs.Ytjiagjonlcadiaa
open Go.RowKit Go.Lib

theorem zero22 : (#[.int .i64 0, .int .i64 0, .int .i64 0, .int .i64 0, .int .i64 0, .int .i64 0, .int .i64 0, .int .i64 0, .int .i64 0, .int .i64 0, .int .i64 0, .int .i64 0, .int .i64 0, .int .i64 0, .int .i64 0, .int .i64 0, .int .i64 0, .int .i64 0, .int .i64 0, .int .i64 0, .int .i64 0, .int .i64 0] : Array Value) = r22 0 := by
  have : r22 0 = row .i64 22 (fun _ => 0) := row_ext _ _ _ _ fun i _ => by unfold dg; simp
  rw [this]; rfl
theorem PP_val : PP = 57896044618658097711785492504343953926634992332820282019728792003956564819949 := rfl
theorem int_num (n : Int) (m : Nat) (h : n = -(m : Int) - 1) : ((0 + (PP - m % PP)) % PP + (PP - 1 % PP)) % PP = (n % (PP : Int)).toNat := by
  subst h
  have hp := PP_val
  have hpos := PP_pos
  have hlt := Nat.mod_lt m hpos
  have hdm := Nat.div_add_mod m PP
  generalize m % PP = r at *
  generalize m / PP = q at *
  subst hdm
  have e1 : 1 % PP = 1 := by decide +kernel
  rw [e1]
  have e2 : (-((PP * q + r : Nat) : Int) - 1) = (-(r : Int) - 1) + (PP : Int) * (-(q : Int)) := by
    rw [Int.natCast_add, Int.natCast_mul, Int.mul_neg]; omega
  rw [e2, Int.add_mul_emod_self_left]
  rw [hp] at *
  omega

set_option maxRecDepth 100000 in
set_option maxHeartbeats 1000000 in
theorem rint_neg (n : Int) (hn : n < 0) (hn2 : -9223372036854775808 ≤ n) (w : World) :
    Calls Try.prog 35 #[.int .i64 n] w fun e w' => e = .returned (.agg (r22 (n % (PP : Int)).toNat)) ∧ Below w.heap.size w w' := by
  obtain ⟨m, hm⟩ : ∃ m : Nat, -(n + 1) = (m : Int) := ⟨(-(n + 1)).toNat, by omega⟩
  have hres := int_num n m (by omega)
  obtain ⟨r, hr⟩ : ∃ r, r = (n % (PP : Int)).toNat := ⟨_, rfl⟩
  rw [← hr] at hres ⊢
  have hc1 := fun w => rint_nn m (by omega) w
  have hc2 := fun w => rint_nn 1 (by omega) w
  have hm1 := fun w => rminus_any 0 (m % PP) PP_pos (Nat.mod_lt _ PP_pos) w
  obtain ⟨x, hx⟩ : ∃ x, x = m % PP := ⟨_, rfl⟩
  obtain ⟨o, ho⟩ : ∃ o, o = 1 % PP := ⟨_, rfl⟩
  obtain ⟨y, hy⟩ : ∃ y, y = (0 + (PP - x)) % PP := ⟨_, rfl⟩
  have hm2 := fun w => rminus_any y o (by rw [hy]; exact Nat.mod_lt _ PP_pos) (by rw [ho]; exact Nat.mod_lt _ PP_pos) w
  rw [← hx] at hc1 hm1 hres
  rw [← ho] at hc2 hres
  rw [← hy] at hm1 hres
  rw [hres] at hm2
  have hz22 := zero22
  have Hc1 := Lib.hid hc1; clear hc1
  have Hc2 := Lib.hid hc2; clear hc2
  have Hm1 := Lib.hid hm1; clear hm1
  have Hm2 := Lib.hid hm2; clear hm2
  have Hm := Lib.hid hm; clear hm
  clear hr hx ho hy hres
  go_enter Try.func35, Try.ntmps35
  go_wp2_with fail
  rw [Hm.out]
  refine (Hc1.out _).mono ?_
  rintro e w1 ⟨rfl, b1⟩
  have B1 := Lib.hid b1; clear b1
  go_wp2_with fail
  refine (Hm1.out _).mono ?_
  rintro e w2 ⟨rfl, b2⟩
  have B2 := Lib.hid b2; clear b2
  go_wp2_with fail
  refine (Hc2.out _).mono ?_
  rintro e w3 ⟨rfl, b3⟩
  have B3 := Lib.hid b3; clear b3
  go_wp2_with fail
  refine (Hm2.out _).mono ?_
  rintro e w4 ⟨rfl, b4⟩
  have B4 := Lib.hid b4; clear b4
  have HBB := Lib.hid (held_next (held_next (held_next (held_next (below_1 w (.cells (r22 0) 40)) B1.out) B2.out) B3.out) B4.out)
  obtain ⟨Z, hZ, mz⟩ := ((((HasN.new w (r22 0) 40 22 (r22_size _)).call B1.out).call B2.out).call B3.out).call B4.out
  have Mz := Lib.hid mz; clear mz
  have HZ := Lib.hid hZ; clear hZ
  go_wp2_with (refine wpList_store_row rfl 40 _ _ rfl (w.heap.size) _ rfl rfl 40 Z Mz.out (by rw [r22_size]; kernel_rfl) (HZ.out.trans (r22_size _).symm) (row_one _ _ _) ?_)
  exact bodyPost_ret (v := .agg (r22 r)) (results_cell_row (t := 40) (by rfl) _ _ (w.heap.size) _ _ _ rfl (Mz.out.setRow _) Try.underlying40 rfl (by rw [r22_size]; kernel_rfl)) rfl ⟨rfl, below_setRow HBB.out _ _ (Nat.le_refl _)⟩

theorem rint_any (n : Int) (h1 : -9223372036854775808 ≤ n) (h2 : n < 9223372036854775808) (w : World) :
    Calls Try.prog 35 #[.int .i64 n] w fun e w' => e = .returned (.agg (r22 (n % (PP : Int)).toNat)) ∧ Below w.heap.size w w' := by
  by_cases h : n < 0
  · exact rint_neg n h h1 w
  · obtain ⟨m, rfl⟩ := Int.eq_ofNat_of_zero_le (show 0 ≤ n by omega)
    have := rint_nn m (by omega) w
    rwa [show ((m : Int) % (PP : Int)).toNat = m % PP by rw [← Int.natCast_emod, Int.toNat_natCast]]

theorem pow_next (a e k x b : Nat) (hx : x = a ^ (e / 2 ^ (k + 1)) % PP) (hb : b = e / 2 ^ k % 2) : (if b = 1 then x * x % PP * a % PP else x * x % PP) = a ^ (e / 2 ^ k) % PP := by
  have h1 : e / 2 ^ k = 2 * (e / 2 ^ (k + 1)) + b := by
    rw [hb, Nat.pow_succ, ← Nat.div_div_eq_div_mul]; omega
  have hb2 : b < 2 := by rw [hb]; exact Nat.mod_lt _ (by decide)
  rw [h1, hx]
  generalize e / 2 ^ (k + 1) = E
  clear h1 hx hb
  have h2 : a ^ E % PP * (a ^ E % PP) % PP = a ^ (2 * E) % PP := by rw [← Nat.mul_mod, Nat.two_mul, Nat.pow_add]
  rw [h2]
  rcases (show b = 0 ∨ b = 1 by omega) with h0 | h0
  · rw [if_neg (by omega), h0]; rfl
  · rw [if_pos h0, h0, Nat.mod_mul_mod]; rfl

set_option maxRecDepth 100000 in
set_option maxHeartbeats 2000000 in
theorem rpower_any (a e : Nat) (ha : a < PP) (he : e < 2 ^ 255) (w : World) :
    Calls Try.prog 85 #[.agg (r22 a), .agg (r22 e)] w fun en w' => en = .returned (.agg (r22 (a ^ e % PP))) ∧ Below w.heap.size w w' := by
  have he0 : a ^ (e / 2 ^ 0) % PP = a ^ e % PP := by rw [Nat.pow_zero, Nat.div_one]
  have he1 : a ^ (e / 2 ^ 255) % PP = 1 % PP := by rw [Nat.div_eq_of_lt he, Nat.pow_zero]
  have hnx := pow_next a e
  have ht := fun x y hx hy w => rtimes_any x y hx hy w
  have hc1 := fun w => rint_nn 1 (by omega) w
  have He0 := Lib.hid he0; clear he0
  have He1 := Lib.hid he1; clear he1
  have Hnx := Lib.hid hnx; clear hnx
  have Ht := Lib.hid ht; clear ht
  have Hc1 := Lib.hid hc1; clear hc1
  have Ha := Lib.hid ha; clear ha
  have He := Lib.hid he; clear he
  go_enter Try.func85, Try.ntmps85
  go_wp2_with fail
  refine (Hc1.out _).mono ?_
  rintro en w1 ⟨rfl, b1⟩
  have m0 := (((Has.new w (r22 a) 40).alloc (.cells (r22 e) 40)).alloc (.cells (row .i64 22 fun _ => 0) 40)).call b1
  have m1 := ((Has.new1 w (.cells (r22 a) 40) (r22 e) 40).alloc (.cells (row .i64 22 fun _ => 0) 40)).call b1
  have m2 := (HasN.new2 w (.cells (r22 a) 40) (.cells (r22 e) 40) (row .i64 22 fun _ => 0) 40 22 (row_size _ _ _)).call b1
  have hB := held_next (below_3 w (.cells (r22 a) 40) (.cells (r22 e) 40) (.cells (row .i64 22 fun _ => 0) 40)) b1
  clear b1
  have h1r : (1 % PP) < PP := Nat.mod_lt _ PP_pos
  obtain ⟨o, ho⟩ : ∃ o, o = 1 % PP := ⟨_, rfl⟩
  rw [← ho] at h1r ⊢
  have M0 := Lib.hid m0; clear m0
  have M1 := Lib.hid m1; clear m1
  have M2 := Lib.hid m2; clear m2
  have HB := Lib.hid hB; clear hB
  have H1r := Lib.hid h1r; clear h1r
  have Ho := Lib.hid ho; clear ho
  obtain ⟨Z, hZ, mz⟩ := HasN.new w1 (row .i64 22 fun _ => 0) 40 22 (row_size _ _ _)
  have q0 := (M0.out.alloc (.cells (row .i64 22 fun _ => 0) 40)).setRow_other w1.heap.size (r22 o) (by have := M0.out.lt; omega)
  have q1 := (M1.out.alloc (.cells (row .i64 22 fun _ => 0) 40)).setRow_other w1.heap.size (r22 o) (by have := M1.out.lt; omega)
  have q2 := (M2.out.alloc (.cells (row .i64 22 fun _ => 0) 40)).setRow_other w1.heap.size (r22 o) (by have := M2.out.lt; omega)
  have q3 := mz.setRow (r22 o)
  have hB2 := below_setRow (HB.out.alloc HB.out.size (.cells (row .i64 22 fun _ => 0) 40)) w1.heap.size (r22 o) HB.out.size
  have hlt3 := M2.out.lt
  have Mz := Lib.hid mz; clear mz
  have HZ := Lib.hid hZ; clear hZ
  have Q0 := Lib.hid q0; clear q0
  have Q1 := Lib.hid q1; clear q1
  have Q2 := Lib.hid q2; clear q2
  have Q3 := Lib.hid q3; clear q3
  have HB2 := Lib.hid hB2; clear hB2
  clear M0 M1 M2 HB
  go_wp2_with (refine wpList_store_row rfl 40 _ _ rfl (w1.heap.size) _ rfl rfl 40 Z Mz.out (by rw [r22_size]; kernel_rfl) (HZ.out.trans (r22_size _).symm) (row_one _ _ _) ?_)
  clear Mz HZ
  go_loopw [6] (fun i wr => ∃ (k x : Nat), k ≤ 255 ∧ i = .int .i64 ((k : Int) - 1) ∧ x < PP ∧ x = a ^ (e / 2 ^ k) % PP ∧ Has wr w.heap.size (r22 a) 40 ∧ Has wr (w.heap.size + 1) (r22 e) 40 ∧ HasN wr (w.heap.size + 1 + 1) 22 40 ∧ Has wr w1.heap.size (r22 x) 40 ∧ Below w.heap.size w wr) (fun i _ => (intOf i + 1).toNat)
  case atStart => exact ⟨255, o, by omega, rfl, H1r.out, by rw [He1.out, Ho.out], Q0.out, Q1.out, Q2.out, Q3.out, HB2.out⟩
  case round =>
    clear Q0 Q1 Q2 Q3 HB2
    obtain ⟨k, x, hk, rfl, hxp, hx, m0, m1, m2, m3, hB⟩ := hrel
    have M0 := Lib.hid m0; clear m0
    have M1 := Lib.hid m1; clear m1
    have M2 := Lib.hid m2; clear m2
    have M3 := Lib.hid m3; clear m3
    have HB := Lib.hid hB; clear hB
    have Hxp := Lib.hid hxp; clear hxp
    have Hx := Lib.hid hx; clear hx
    by_cases hlt : 0 < k
    · obtain ⟨k, rfl⟩ : ∃ j, k = j + 1 := ⟨k - 1, by omega⟩
      rw [show (((k + 1 : Nat) : Int) - 1) = (k : Int) by omega]
      go_wp2_with (refine wpList_load_row rfl 40 _ rfl (w1.heap.size) rfl 40 (r22 x) (0, 0) _ M3.out Try.underlying40 rfl (by rw [r22_size]; kernel_rfl) ?_)
      have hy0 : x * x % PP < PP := Nat.mod_lt _ PP_pos
      obtain ⟨y, hy⟩ : ∃ y, y = x * x % PP := ⟨_, rfl⟩
      have hc := fun w => Ht.out x x Hxp.out Hxp.out w
      rw [← hy] at hc hy0
      have Hc := Lib.hid hc; clear hc
      have Hy := Lib.hid hy; clear hy
      have Hy0 := Lib.hid hy0; clear hy0
      refine (Hc.out _).mono ?_
      rintro en w2 ⟨rfl, b2⟩
      have m0 := M0.out.call b2
      have m1 := M1.out.call b2
      have m2 := M2.out.call b2
      obtain ⟨Z, hZ, mz⟩ := (M3.out.toN (r22_size _)).call b2
      have hB2 := held_next HB.out b2
      have q0 := m0.setRow_other w1.heap.size (r22 y) (by omega)
      have q1 := m1.setRow_other w1.heap.size (r22 y) (by omega)
      have q2 := m2.setRow_other w1.heap.size (r22 y) (by omega)
      have q3 := mz.setRow (r22 y)
      have hB3 := below_setRow hB2 w1.heap.size (r22 y) (by omega)
      clear m0 m1 m2 b2 hB2
      clear M0 M1 M2 M3 HB Hc
      have h1 := q1.cell (k / 12) (by omega)
      have x0 := dg_nn e (k / 12)
      have x1 := dg_le e (k / 12)
      obtain ⟨z, hz⟩ : ∃ z, z = dg 4096 e (k / 12) := ⟨_, rfl⟩
      rw [← hz] at h1 x0 x1
      have hbit := bitr e k z hz
      have k0 : (0 : Int) ≤ (k : Int) % 12 := by omega
      have k1 : (k : Int) % 12 < 12 := by omega
      have k2 : (0 : Int) ≤ (k : Int) / 12 := by omega
      have k3 : (k : Int) / 12 < 22 := by omega
      obtain ⟨s0, s1⟩ := div_pow_bd12 z (k % 12) x0 x1
      have Mz := Lib.hid mz; clear mz
      have HZ := Lib.hid hZ; clear hZ
      have Q0 := Lib.hid q0; clear q0
      have Q1 := Lib.hid q1; clear q1
      have Q2 := Lib.hid q2; clear q2
      have Q3 := Lib.hid q3; clear q3
      have HB3 := Lib.hid hB3; clear hB3
      have Hz := Lib.hid hz; clear hz
      have Hbit := Lib.hid hbit; clear hbit
      by_cases hb1 : z / 2 ^ (k % 12) % 2 = 1
      · have ht : (z / 2 ^ (k % 12) % 2 == 1) = true := by simp [hb1]
        have hbn : 1 = e / 2 ^ k % 2 := by have := Hbit.out; omega
        have hnx := Hnx.out k x 1 Hx.out hbn
        rw [if_pos rfl, ← Hy.out] at hnx
        have hv0 : y * a % PP < PP := Nat.mod_lt _ PP_pos
        obtain ⟨v, hv⟩ : ∃ v, v = y * a % PP := ⟨_, rfl⟩
        have hc := fun w => Ht.out y a Hy0.out Ha.out w
        rw [← hv] at hc hv0 hnx
        clear hv hbn
        have Hb1 := Lib.hid hb1; clear hb1
        have Hc := Lib.hid hc; clear hc
        have Hv0 := Lib.hid hv0; clear hv0
        have Hnx := Lib.hid hnx; clear hnx
        go_wp2_with (first | (refine wpList_store_row rfl 40 _ _ rfl (w1.heap.size) _ rfl rfl 40 Z Mz.out (by rw [r22_size]; kernel_rfl) (HZ.out.trans (r22_size _).symm) (row_one _ _ _) ?_) | (refine wpList_load_row rfl 40 _ rfl (w1.heap.size) rfl 40 (r22 y) (0, 0) _ Q3.out Try.underlying40 rfl (by rw [r22_size]; kernel_rfl) ?_) | (refine wpList_load_row rfl 40 _ rfl (w.heap.size) rfl 40 (r22 a) (0, 0) _ Q0.out Try.underlying40 rfl (by rw [r22_size]; kernel_rfl) ?_))
        refine (Hc.out _).mono ?_
        rintro en w3 ⟨rfl, b3⟩
        have m0 := Q0.out.call b3
        have m1 := Q1.out.call b3
        have m2 := Q2.out.call b3
        obtain ⟨Z', hZ', mz'⟩ := (Q3.out.toN (r22_size _)).call b3
        have hB4 := held_next HB3.out b3
        have p0 := m0.setRow_other w1.heap.size (r22 v) (by omega)
        have p1 := m1.setRow_other w1.heap.size (r22 v) (by omega)
        have p2 := m2.setRow_other w1.heap.size (r22 v) (by omega)
        have p3 := mz'.setRow (r22 v)
        have hB5 := below_setRow hB4 w1.heap.size (r22 v) (by omega)
        clear m0 m1 m2 b3 hB4
        have Mz' := Lib.hid mz'; clear mz'
        have HZ' := Lib.hid hZ'; clear hZ'
        have P0 := Lib.hid p0; clear p0
        have P1 := Lib.hid p1; clear p1
        have P2 := Lib.hid p2; clear p2
        have P3 := Lib.hid p3; clear p3
        have HB5 := Lib.hid hB5; clear hB5
        go_wp2_with (refine wpList_store_row rfl 40 _ _ rfl (w1.heap.size) _ rfl rfl 40 Z' Mz'.out (by rw [r22_size]; kernel_rfl) (HZ'.out.trans (r22_size _).symm) (row_one _ _ _) ?_)
        go_roundw
        case measure => simp [intOf]
        case rel => exact ⟨k, v, by omega, rfl, Hv0.out, Hnx.out, P0.out, P1.out, P2.out, P3.out, HB5.out⟩
      · have ht : (z / 2 ^ (k % 12) % 2 == 1) = false := by simp [hb1]
        have hbn : 0 = e / 2 ^ k % 2 := by have := Hbit.out; omega
        have hnx := Hnx.out k x 0 Hx.out hbn
        rw [if_neg (by decide), ← Hy.out] at hnx
        clear hb1 hbn
        have Hnx := Lib.hid hnx; clear hnx
        go_wp2_with (refine wpList_store_row rfl 40 _ _ rfl (w1.heap.size) _ rfl rfl 40 Z Mz.out (by rw [r22_size]; kernel_rfl) (HZ.out.trans (r22_size _).symm) (row_one _ _ _) ?_)
        go_roundw
        case measure => simp [intOf]
        case rel => exact ⟨k, y, by omega, rfl, Hy0.out, Hnx.out, Q0.out, Q1.out, Q2.out, Q3.out, HB3.out⟩
    · obtain rfl : k = 0 := by omega
      have hx2 : x = a ^ e % PP := Hx.out.trans He0.out
      obtain ⟨Z, hZ, mz⟩ := M2.out
      have Mz := Lib.hid mz; clear mz
      have HZ := Lib.hid hZ; clear hZ
      have Hx2 := Lib.hid hx2; clear hx2
      have HBB := Lib.hid (below_setRow HB.out (w.heap.size + 1 + 1) (r22 x) (by omega))
      go_wp2_with (first | (refine wpList_load_row rfl 40 _ rfl (w1.heap.size) rfl 40 (r22 x) (0, 0) _ M3.out Try.underlying40 rfl (by rw [r22_size]; kernel_rfl) ?_) | (refine wpList_store_row rfl 40 _ _ rfl (w.heap.size + 1 + 1) _ rfl rfl 40 Z Mz.out (by rw [r22_size]; kernel_rfl) (HZ.out.trans (r22_size _).symm) (row_one _ _ _) ?_))
      exact bodyPost_ret (v := .agg (r22 x)) (results_cell_row (t := 40) (by rfl) _ _ (w.heap.size + 1 + 1) _ _ _ rfl (Mz.out.setRow _) Try.underlying40 rfl (by rw [r22_size]; kernel_rfl)) rfl ⟨by rw [Hx2.out], HBB.out⟩

/-- a power modulo the prime, under a name: a closed one must not be reckoned by Nat's own power -/
def pwm (b e : Nat) : Nat := b ^ e % PP
theorem pwm_lt (b e : Nat) : pwm b e < PP := Nat.mod_lt _ PP_pos
theorem rpow_any (a e : Nat) (ha : a < PP) (he : e < 2 ^ 255) (w : World) :
    Calls Try.prog 85 #[.agg (r22 a), .agg (r22 e)] w fun en w' => en = .returned (.agg (r22 (pwm a e))) ∧ Below w.heap.size w w' := rpower_any a e ha he w
end Go.Proofs.Ytjiagjonlcadiaa
