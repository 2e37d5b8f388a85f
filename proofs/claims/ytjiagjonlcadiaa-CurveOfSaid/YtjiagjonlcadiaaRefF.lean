/- The reference's Key, Int. -/
import Derived.Test.YtjiagjonlcadiaaRefE
namespace Go.Proofs.Ytjiagjonlcadiaa
open Go.RowKit Go.Lib

theorem pow8 (k : Nat) : (2 : Int) ^ (k % 8) * 256 ^ (k / 8) = 2 ^ k := by
  rw [show (256 : Int) = 2 ^ 8 from rfl, ← Int.pow_mul, ← Int.pow_add, Nat.mod_add_div]
theorem pow8_le (k : Nat) : (2 : Int) ^ (k % 8) ≤ 128 ∧ (0 : Int) < 2 ^ (k % 8) := by
  refine ⟨?_, Int.pow_pos (by decide)⟩
  have hr : k % 8 < 8 := Nat.mod_lt _ (by decide)
  generalize k % 8 = r at *
  rcases (show r = 0 ∨ r = 1 ∨ r = 2 ∨ r = 3 ∨ r = 4 ∨ r = 5 ∨ r = 6 ∨ r = 7 by omega) with rfl | rfl | rfl | rfl | rfl | rfl | rfl | rfl <;> decide
theorem room8 (h : Nat → Int) (n k : Nat) (hk : k < 256) (hd : ∀ j, j < 32 → 0 ≤ h j ∧ h j < 256) (hs : sumf 256 h 32 = ((n % 2 ^ k : Nat) : Int)) : h (k / 8) < 2 ^ (k % 8) := by
  have h1 := fig_le 256 (by decide) h 32 (k / 8) (by omega) (fun j hj => (hd j hj).1)
  rw [hs] at h1
  have h2 : ((n % 2 ^ k : Nat) : Int) < 2 ^ k := by
    have : n % 2 ^ k < 2 ^ k := Nat.mod_lt _ (Nat.pow_pos (by decide))
    have e : ((2 ^ k : Nat) : Int) = (2 : Int) ^ k := by rw [Int.natCast_pow]; rfl
    omega
  rw [← pow8 k] at h2
  exact Int.lt_of_mul_lt_mul_right (Int.lt_of_le_of_lt h1 h2) (Int.le_of_lt (Int.pow_pos (by decide)))
theorem div_pow_bd12 (x : Int) (k : Nat) (h0 : 0 ≤ x) (h1 : x ≤ 4095) : 0 ≤ x / 2 ^ k ∧ x / 2 ^ k ≤ 4095 := by
  have hp : (0 : Int) < 2 ^ k := Int.pow_pos (by decide)
  refine ⟨Int.ediv_nonneg h0 (Int.le_of_lt hp), ?_⟩
  have := Int.ediv_le_self (2 ^ k) h0
  omega
theorem bitr (n k : Nat) (x : Int) (hx : x = dg 4096 n (k / 12)) : x / 2 ^ (k % 12) % 2 = ((n / 2 ^ k % 2 : Nat) : Int) := by
  rw [hx, dg, ← bit12 n k]
  norm_cast
theorem key_end (n : Nat) (hn : n < 2 ^ 256) (h : Nat → Int) (hd : ∀ j, j < 32 → 0 ≤ h j ∧ h j < 256) (hs : sumf 256 h 32 = ((n % 2 ^ 256 : Nat) : Int)) : row .u8 32 h = k32 n := by
  rw [Nat.mod_eq_of_lt hn] at hs
  exact row_ext _ _ _ _ (sumf_uniq 256 h n 32 hd hs)

set_option maxRecDepth 100000 in
set_option maxHeartbeats 2000000 in
theorem rkey_any (n : Nat) (hn : n < 2 ^ 256) (w : World) :
    Calls Try.prog 74 #[.agg (r22 n)] w fun e w' => e = .returned (.agg (k32 n)) ∧ Below w.heap.size w w' := by
  have HE := Lib.hid (key_end n hn); clear hn
  go_enter Try.func74, Try.ntmps74
  go_wp2_with fail
  go_loopw [4] (fun i wr => ∃ (k : Nat) (h : Nat → Int), k ≤ 256 ∧ i = .int .i64 k ∧ (∀ j, j < 32 → 0 ≤ h j ∧ h j < 256) ∧ sumf 256 h 32 = ((n % 2 ^ k : Nat) : Int) ∧ Has wr w.heap.size (r22 n) 40 ∧ HasN wr (w.heap.size + 1) 32 24 ∧ Has wr (w.heap.size + 1 + 1) (row .u8 32 h) 24 ∧ Below w.heap.size w wr) (fun i _ => 256 - (intOf i).toNat)
  case atStart => exact ⟨0, fun _ => 0, by omega, rfl, fun j hj => by simp, by rw [sumf_zero _ _ _ (fun _ _ => rfl)]; simp [Nat.mod_one], ((Has.new _ _ _).alloc _).alloc _, (HasN.new1 _ _ _ _ 32 rfl).alloc _, Has.new2 _ _ _ _ _, below_3 _ _ _ _⟩
  case round =>
    obtain ⟨k, h, hk, rfl, hd, hs, m0, m1, m2, hB⟩ := hrel
    have M0 := Lib.hid m0; clear m0
    have M1 := Lib.hid m1; clear m1
    have M2 := Lib.hid m2; clear m2
    have Hd := Lib.hid hd; clear hd
    have Hs := Lib.hid hs; clear hs
    by_cases hlt : k < 256
    · have h1 := M0.out.cell (k / 12) (by omega)
      have x0 := dg_nn n (k / 12)
      have x1 := dg_le n (k / 12)
      obtain ⟨x, hx⟩ : ∃ x, x = dg 4096 n (k / 12) := ⟨_, rfl⟩
      rw [← hx] at h1 x0 x1
      have hbit := bitr n k x hx
      have k0 : (0 : Int) ≤ (k : Int) % 12 := by omega
      have k1 : (k : Int) % 12 < 12 := by omega
      have k2 : (0 : Int) ≤ (k : Int) / 12 := by omega
      have k3 : (k : Int) / 12 < 22 := by omega
      have k4 : (0 : Int) ≤ (k : Int) % 8 := by omega
      have k5 : (k : Int) % 8 < 8 := by omega
      have k6 : (0 : Int) ≤ (k : Int) / 8 := by omega
      have k7 : (k : Int) / 8 < 32 := by omega
      obtain ⟨s0, s1⟩ := div_pow_bd12 x (k % 12) x0 x1
      have h2 := M2.out.cell (k / 8) (by omega)
      have hfz := M2.out.frozen (k / 8)
      have hy := room8 h n k hlt Hd.out Hs.out
      have hy0 := (Hd.out (k / 8) (by omega)).1
      obtain ⟨y, hyy⟩ : ∃ y, y = h (k / 8) := ⟨_, rfl⟩
      rw [← hyy] at h2 hy hy0
      have hp8 := (pow8_le k).1
      have hp80 := (pow8_le k).2
      have Hx := Lib.hid hx; clear hx
      have Hbit := Lib.hid hbit; clear hbit
      have Hyy := Lib.hid hyy; clear hyy
      by_cases hb1 : x / 2 ^ (k % 12) % 2 = 1
      · have ht : (x / 2 ^ (k % 12) % 2 == 1) = true := by simp [hb1]
        have Hb1 := Lib.hid hb1; clear hb1
        go_wp2_with fail
        go_roundw
        case measure => simp [intOf]; omega
        case rel =>
          refine ⟨k + 1, upd h (k / 8) (y + 2 ^ (k % 8)), by omega, by go_num, ?_, ?_, M0.out.other _ _ (by simp <;> omega), M1.out.other _ _ (by simp <;> omega), M2.out.set _ _, hB.setCell (by simp <;> omega) _⟩
          · intro j hj
            by_cases e : j = k / 8
            · subst e; rw [upd_same]; omega
            · rw [upd_ne _ _ _ _ e]; exact Hd.out j hj
          · have hb2 : ((n / 2 ^ k % 2 : Nat) : Int) = 1 := Hbit.out.symm.trans Hb1.out
            rw [sumf_upd _ _ _ _ _ (by omega), Hs.out, mod_succ_pow, ← Hyy.out]
            have e := pow8 k
            have e2 : ((n % 2 ^ k + n / 2 ^ k % 2 * 2 ^ k : Nat) : Int) = ((n % 2 ^ k : Nat) : Int) + ((n / 2 ^ k % 2 : Nat) : Int) * 2 ^ k := by
              rw [Int.natCast_add, Int.natCast_mul, Int.natCast_pow]; rfl
            rw [e2, hb2, ← e]
            generalize (2 : Int) ^ (k % 8) = U
            generalize (256 : Int) ^ (k / 8) = V
            grind
      · have ht : (x / 2 ^ (k % 12) % 2 == 1) = false := by simp [hb1]
        have hb0 : x / 2 ^ (k % 12) % 2 = 0 := by omega
        clear hb1
        have Hb0 := Lib.hid hb0; clear hb0
        go_wp2_with fail
        go_roundw
        case measure => simp [intOf]; omega
        case rel =>
          refine ⟨k + 1, h, by omega, by go_num, Hd.out, ?_, M0.out, M1.out, M2.out, hB⟩
          have hb2 : n / 2 ^ k % 2 = 0 := by have := Hbit.out.symm.trans Hb0.out; omega
          rw [Hs.out, mod_succ_pow, hb2, Nat.zero_mul, Nat.add_zero]
    · obtain rfl : k = 256 := by omega
      have m2 := M2.out
      rw [HE.out h Hd.out Hs.out] at m2
      obtain ⟨Z, hZ, mz⟩ := M1.out
      have M2 := Lib.hid m2; clear m2
      have Mz := Lib.hid mz; clear mz
      have HZ := Lib.hid hZ; clear hZ
      go_wp2_with (first | (refine wpList_load_row rfl 24 _ rfl (w.heap.size + 1 + 1) rfl 24 (k32 n) (0, 0) _ M2.out Try.underlying24 rfl (by rw [k32_size]; kernel_rfl) ?_) | (refine wpList_store_row rfl 24 _ _ rfl (w.heap.size + 1) _ rfl rfl 24 Z Mz.out (by rw [k32_size]; kernel_rfl) (HZ.out.trans (k32_size _).symm) (row_one _ _ _) ?_))
      exact bodyPost_ret (v := .agg (k32 n)) (results_cell_row (t := 24) (by rfl) _ _ (w.heap.size + 1) _ _ _ rfl (Mz.out.setRow _) Try.underlying24 rfl (by rw [k32_size]; kernel_rfl)) rfl ⟨rfl, below_setRow hB _ _ (by omega)⟩

theorem div_succ (n k : Nat) : n / 4096 ^ (k + 1) = n / 4096 ^ k / 4096 := by rw [Nat.pow_succ, Nat.div_div_eq_div_mul]
theorem int_inv (n : Nat) (hn : n < 9223372036854775808) (h : Nat → Int) (hl : ∀ j, j < 6 → h j = dg 4096 n j) (hh : ∀ j, 6 ≤ j → h j = 0) : Inv1 n 0 h := by
  have hz : ∀ j, 6 ≤ j → dg 4096 n j = 0 := by
    intro j hj
    unfold dg
    have : n < 4096 ^ j := Nat.lt_of_lt_of_le (Nat.lt_of_lt_of_le hn (by decide)) (Nat.pow_le_pow_right (by decide) hj)
    rw [Nat.div_eq_of_lt this]; rfl
  have he : ∀ j, h j = dg 4096 n j := fun j => by
    by_cases hj : j < 6
    · exact hl j hj
    · rw [hh j (by omega), hz j (by omega)]
  refine inv1_init _ h (fun i _ => ?_) ?_ ?_
  · rw [he i]; have a := dg_nn n i; have b := dg_le n i; omega
  · rw [sumf_congr 4096 h (dg 4096 n) 44 (fun i _ => he i)]
    have := sumf_dg 4096 n 44
    rw [Nat.mod_eq_of_lt (Nat.lt_of_lt_of_le hn (by decide +kernel))] at this
    exact this
  · rw [bnd0]; omega

set_option maxRecDepth 100000 in
set_option maxHeartbeats 1000000 in
theorem rint_nn (n : Nat) (hn : n < 9223372036854775808) (w : World) :
    Calls Try.prog 35 #[.int .i64 n] w fun e w' => e = .returned (.agg (r22 (n % PP))) ∧ Below w.heap.size w w' := by
  have HI := Lib.hid (int_inv n hn)
  have hq0 : n / 4096 ^ 0 < 9223372036854775808 := by simpa using hn
  have hend : n / 4096 ^ 6 = 0 := Nat.div_eq_of_lt (Nat.lt_of_lt_of_le hn (by decide))
  obtain ⟨r, hr⟩ : ∃ r, r = n % PP := ⟨_, rfl⟩
  have hle := fun h hi w => least_any n h hi w
  rw [← hr] at hle ⊢
  have hdl : ∀ k, n / 4096 ^ k ≤ n := fun k => Nat.div_le_self _ _
  have Hle := Lib.hid hle; clear hle
  have Hend := Lib.hid hend; clear hend
  have Hq0 := Lib.hid hq0; clear hq0
  have Hdl := Lib.hid hdl; clear hdl
  clear hr
  go_enter Try.func35, Try.ntmps35
  go_wp2_with fail
  go_loopw [0, 4] (fun q i wr => ∃ (k : Nat) (h : Nat → Int), k ≤ 6 ∧ i = .int .i64 k ∧ q = .int .i64 ((n / 4096 ^ k : Nat) : Int) ∧ (∀ j, j < k → h j = dg 4096 n j) ∧ (∀ j, k ≤ j → h j = 0) ∧ HasN wr w.heap.size 22 40 ∧ Has wr (w.heap.size + 1) (row .i64 44 h) 101 ∧ Below w.heap.size w wr) (fun _ i _ => 6 - (intOf i).toNat)
  case atStart => exact ⟨0, fun _ => 0, by omega, rfl, by simp, fun j hj => by omega, fun _ _ => rfl, (HasN.new _ _ _ 22 rfl).alloc _, Has.new1 _ _ _ _, below_2 _ _ _⟩
  case round =>
    obtain ⟨k, h, hk, rfl, rfl, hl, hh, m0, m1, hB⟩ := hrel
    have M0 := Lib.hid m0; clear m0
    have M1 := Lib.hid m1; clear m1
    have Hl := Lib.hid hl; clear hl
    have Hh := Lib.hid hh; clear hh
    by_cases hlt : k < 6
    · have h2 := M1.out.cell k (by omega)
      have hfz := M1.out.frozen k
      have hq1 := Hdl.out k
      have hfig : ((n / 4096 ^ k : Nat) : Int) % 4096 = dg 4096 n k := by unfold dg; omega
      have hnx : ((n / 4096 ^ k : Nat) : Int) / 4096 = ((n / 4096 ^ (k + 1) : Nat) : Int) := by rw [div_succ]; omega
      obtain ⟨q, hq⟩ : ∃ q, q = n / 4096 ^ k := ⟨_, rfl⟩
      rw [← hq] at hq1 hfig hnx
      rw [← hq]
      have Hq := Lib.hid hq; clear hq
      have Hfig := Lib.hid hfig; clear hfig
      have Hnx := Lib.hid hnx; clear hnx
      go_wp2_with fail
      go_roundw
      case measure => simp [intOf]; omega
      case rel =>
        refine ⟨k + 1, upd h k ((q : Int) % 4096), by omega, by go_num, by rw [← Hnx.out], ?_, ?_, M0.out.other _ _ (by simp <;> omega), M1.out.set _ _, hB.setCell (by simp <;> omega) _⟩
        · intro j hj
          by_cases e : j = k
          · subst e; rw [upd_same, Hfig.out]
          · rw [upd_ne _ _ _ _ e]; exact Hl.out j (by omega)
        · intro j hj; rw [upd_ne _ _ _ _ (by omega)]; exact Hh.out j (by omega)
    · obtain rfl : k = 6 := by omega
      have HC := Lib.hid (HI.out h Hl.out Hh.out)
      go_wp2_with (first | (refine wpList_load_row rfl 101 _ rfl (w.heap.size + 1) rfl 101 (row .i64 44 h) (0, 0) _ M1.out Try.underlying101 rfl (by rw [row_size]; kernel_rfl) ?_))
      refine (Hle.out h HC.out _).mono ?_
      rintro e w1 ⟨rfl, hb1⟩
      obtain ⟨Z, hZ, mz⟩ := M0.out.below hb1 M0.out.lt
      have HBB := Lib.hid (below_setRow (hB.trans (hb1.mono hB.size)) w.heap.size (r22 r) (by omega))
      clear hb1
      have Mz := Lib.hid mz; clear mz
      have HZ := Lib.hid hZ; clear hZ
      go_wp2_with (refine wpList_store_row rfl 40 _ _ rfl (w.heap.size) _ rfl rfl 40 Z Mz.out (by rw [r22_size]; kernel_rfl) (HZ.out.trans (r22_size _).symm) (row_one _ _ _) ?_)
      exact bodyPost_ret (v := .agg (r22 r)) (results_cell_row (t := 40) (by rfl) _ _ (w.heap.size) _ _ _ rfl (Mz.out.setRow _) Try.underlying40 rfl (by rw [r22_size]; kernel_rfl)) rfl ⟨rfl, HBB.out⟩
end Go.Proofs.Ytjiagjonlcadiaa
