/- The reference's Of. -/
import Derived.Test.YtjiagjonlcadiaaRefD
namespace Go.Proofs.Ytjiagjonlcadiaa
open Go.RowKit Go.Lib
/-- a key's bytes -/
def k32 (n : Nat) : Array Value := row .u8 32 (dg 256 n)
theorem k32_size (n : Nat) : (k32 n).size = 32 := row_size _ _ _

theorem bit8 (n k : Nat) : (n / 256 ^ (k / 8) % 256) / 2 ^ (k % 8) % 2 = n / 2 ^ k % 2 := by
  have e : 2 ^ k = 256 ^ (k / 8) * 2 ^ (k % 8) := by
    rw [show (256 : Nat) = 2 ^ 8 from rfl, ← Nat.pow_mul, ← Nat.pow_add, Nat.div_add_mod]
  rw [e, ← Nat.div_div_eq_div_mul]
  generalize n / 256 ^ (k / 8) = q
  have hr : k % 8 < 8 := Nat.mod_lt _ (by decide)
  generalize k % 8 = r at *
  rcases (show r = 0 ∨ r = 1 ∨ r = 2 ∨ r = 3 ∨ r = 4 ∨ r = 5 ∨ r = 6 ∨ r = 7 by omega) with rfl | rfl | rfl | rfl | rfl | rfl | rfl | rfl <;> simp <;> omega
theorem bit12 (n k : Nat) : (n / 4096 ^ (k / 12) % 4096) / 2 ^ (k % 12) % 2 = n / 2 ^ k % 2 := by
  have e : 2 ^ k = 4096 ^ (k / 12) * 2 ^ (k % 12) := by
    rw [show (4096 : Nat) = 2 ^ 12 from rfl, ← Nat.pow_mul, ← Nat.pow_add, Nat.div_add_mod]
  rw [e, ← Nat.div_div_eq_div_mul]
  generalize n / 4096 ^ (k / 12) = q
  have hr : k % 12 < 12 := Nat.mod_lt _ (by decide)
  generalize k % 12 = r at *
  rcases (show r = 0 ∨ r = 1 ∨ r = 2 ∨ r = 3 ∨ r = 4 ∨ r = 5 ∨ r = 6 ∨ r = 7 ∨ r = 8 ∨ r = 9 ∨ r = 10 ∨ r = 11 by omega) with rfl | rfl | rfl | rfl | rfl | rfl | rfl | rfl | rfl | rfl | rfl | rfl <;> simp <;> omega
theorem pow12 (k : Nat) : (2 : Int) ^ (k % 12) * 4096 ^ (k / 12) = 2 ^ k := by
  rw [show (4096 : Int) = 2 ^ 12 from rfl, ← Int.pow_mul, ← Int.pow_add, Nat.mod_add_div]
theorem mod_succ_pow (n k : Nat) : n % 2 ^ (k + 1) = n % 2 ^ k + n / 2 ^ k % 2 * 2 ^ k := by
  rw [Nat.pow_succ, Nat.mod_mul, Nat.mul_comm]
/-- a figure alone is not more than all -/
theorem fig_le (B : Int) (hB : 0 < B) (f : Nat → Int) (n i : Nat) (hi : i < n) (h : ∀ j, j < n → 0 ≤ f j) : f i * B ^ i ≤ sumf B f n := by
  have h1 := sumf_upd B f n i 0 hi
  have h2 := sumf_nonneg B hB (upd f i 0) n (fun j hj => by
    by_cases e : j = i
    · subst e; rw [upd_same]; omega
    · rw [upd_ne _ _ _ _ e]; exact h j hj)
  rw [h1, Int.zero_sub, Int.neg_mul] at h2
  omega
theorem room12 (h : Nat → Int) (n k : Nat) (hk : k < 264) (hd : ∀ j, j < 44 → 0 ≤ h j ∧ h j < 4096) (hs : sumf 4096 h 44 = ((n % 2 ^ k : Nat) : Int)) : h (k / 12) < 2 ^ (k % 12) := by
  have h1 := fig_le 4096 (by decide) h 44 (k / 12) (by omega) (fun j hj => (hd j hj).1)
  rw [hs] at h1
  have h2 : ((n % 2 ^ k : Nat) : Int) < 2 ^ k := by
    have : n % 2 ^ k < 2 ^ k := Nat.mod_lt _ (Nat.pow_pos (by decide))
    have e : ((2 ^ k : Nat) : Int) = (2 : Int) ^ k := by rw [Int.natCast_pow]; rfl
    omega
  rw [← pow12 k] at h2
  exact Int.lt_of_mul_lt_mul_right (Int.lt_of_le_of_lt h1 h2) (Int.le_of_lt (Int.pow_pos (by decide)))
theorem pow12_le (k : Nat) : (2 : Int) ^ (k % 12) ≤ 2048 := by
  have hr : k % 12 < 12 := Nat.mod_lt _ (by decide)
  generalize k % 12 = r at *
  rcases (show r = 0 ∨ r = 1 ∨ r = 2 ∨ r = 3 ∨ r = 4 ∨ r = 5 ∨ r = 6 ∨ r = 7 ∨ r = 8 ∨ r = 9 ∨ r = 10 ∨ r = 11 by omega) with rfl | rfl | rfl | rfl | rfl | rfl | rfl | rfl | rfl | rfl | rfl | rfl <;> decide
theorem div_pow_bd (x : Int) (k : Nat) (h0 : 0 ≤ x) (h1 : x < 256) : 0 ≤ x / 2 ^ k ∧ x / 2 ^ k < 256 := by
  have hp : (0 : Int) < 2 ^ k := Int.pow_pos (by decide)
  refine ⟨Int.ediv_nonneg h0 (Int.le_of_lt hp), ?_⟩
  have := Int.ediv_le_self (2 ^ k) h0
  omega
theorem of_inv (n : Nat) (h : Nat → Int) (hd : ∀ j, j < 44 → 0 ≤ h j ∧ h j < 4096) (hs : sumf 4096 h 44 = ((n % 2 ^ 255 : Nat) : Int)) : Inv1 (n % 2 ^ 255) 0 h := by
  refine inv1_init _ h (fun i hi => by have := hd i hi; omega) hs ?_
  rw [bnd0]
  have : n % 2 ^ 255 < 2 ^ 255 := Nat.mod_lt _ (Nat.pow_pos (by decide))
  have e : (2 : Nat) ^ 255 = 57896044618658097711785492504343953926634992332820282019728792003956564819968 := by decide +kernel
  omega
theorem dbl_le (b v : Int) (j m : Nat) (hb0 : 0 ≤ b) (hb : b ≤ 1) (hj : j < m) (hm : (2 : Int) ^ m ≤ 2048) (hv : v = b * 2 ^ j) : 0 ≤ v ∧ v ≤ 1024 := by
  have hp : (0 : Int) < 2 ^ j := Int.pow_pos (by decide)
  have h2 : (2 : Int) ^ (j + 1) ≤ 2 ^ m := by
    obtain ⟨d, rfl⟩ : ∃ d, m = j + 1 + d := ⟨m - (j + 1), by omega⟩
    rw [Int.pow_add 2 (j + 1) d]
    have hd : (1 : Int) ≤ 2 ^ d := by have : (0 : Int) < 2 ^ d := Int.pow_pos (by decide); omega
    have h3 : (2 : Int) ^ (j + 1) * 1 ≤ 2 ^ (j + 1) * 2 ^ d := Int.mul_le_mul_of_nonneg_left hd (Int.le_of_lt (Int.pow_pos (by decide)))
    omega
  rw [Int.pow_succ] at h2
  rcases (show b = 0 ∨ b = 1 by omega) with rfl | rfl
  · rw [hv]; simp
  · rw [hv]; omega
theorem ofbit (n k : Nat) (x : Int) (hx : x = dg 256 n (k / 8)) : x / 2 ^ (k % 8) % 2 = ((n / 2 ^ k % 2 : Nat) : Int) := by
  rw [hx, dg, ← bit8 n k]
  norm_cast

set_option maxRecDepth 100000 in
set_option maxHeartbeats 2000000 in
theorem rof_any (n : Nat) (w : World) :
    Calls Try.prog 33 #[.agg (k32 n)] w fun e w' => e = .returned (.agg (r22 (n % 2 ^ 255 % PP))) ∧ Below w.heap.size w w' := by
  have HI := Lib.hid (of_inv n)
  obtain ⟨m, hm⟩ : ∃ m, m = n % 2 ^ 255 := ⟨_, rfl⟩
  obtain ⟨r, hr⟩ : ∃ r, r = m % PP := ⟨_, rfl⟩
  have hle := fun h hi w => least_any m h hi w
  rw [← hm] at HI ⊢
  rw [← hr] at hle ⊢
  have Hle := Lib.hid hle; clear hle
  have Hm := Lib.hid hm; clear hm
  clear hr
  go_enter Try.func33, Try.ntmps33
  go_wp2_with fail
  go_loopw [4] (fun i wr => ∃ (k : Nat) (h : Nat → Int), k ≤ 255 ∧ i = .int .i64 k ∧ (∀ j, j < 44 → 0 ≤ h j ∧ h j < 4096) ∧ sumf 4096 h 44 = ((n % 2 ^ k : Nat) : Int) ∧ Has wr w.heap.size (k32 n) 24 ∧ HasN wr (w.heap.size + 1) 22 40 ∧ Has wr (w.heap.size + 1 + 1) (row .i64 44 h) 101 ∧ Below w.heap.size w wr) (fun i _ => 255 - (intOf i).toNat)
  case atStart => exact ⟨0, fun _ => 0, by omega, rfl, fun j hj => by simp, by rw [sumf_zero _ _ _ (fun _ _ => rfl)]; simp [Nat.mod_one], ((Has.new _ _ _).alloc _).alloc _, (HasN.new1 _ _ _ _ 22 rfl).alloc _, Has.new2 _ _ _ _ _, below_3 _ _ _ _⟩
  case round =>
    obtain ⟨k, h, hk, rfl, hd, hs, m0, m1, m2, hB⟩ := hrel
    have M0 := Lib.hid m0; clear m0
    have M1 := Lib.hid m1; clear m1
    have M2 := Lib.hid m2; clear m2
    have Hd := Lib.hid hd; clear hd
    have Hs := Lib.hid hs; clear hs
    by_cases hlt : k < 255
    · have h1 := M0.out.cell (k / 8) (by omega)
      have x0 := (dg_bd 256 n (k / 8) (by decide)).1
      have x1 := (dg_bd 256 n (k / 8) (by decide)).2
      obtain ⟨x, hx⟩ : ∃ x, x = dg 256 n (k / 8) := ⟨_, rfl⟩
      rw [← hx] at h1 x0 x1
      have hbit := ofbit n k x hx
      have k0 : (0 : Int) ≤ (k : Int) % 8 := by omega
      have k1 : (k : Int) % 8 < 8 := by omega
      have k2 : (0 : Int) ≤ (k : Int) / 8 := by omega
      have k3 : (k : Int) / 8 < 32 := by omega
      obtain ⟨s0, s1⟩ := div_pow_bd x (k % 8) x0 x1
      have Hx := Lib.hid hx; clear hx
      have Hbit := Lib.hid hbit; clear hbit
      go_wp2_with fail
      obtain ⟨b, hb⟩ : ∃ b, b = x / 2 ^ (k % 8) % 2 := ⟨_, rfl⟩
      rw [← hb]
      have b0 : 0 ≤ b := by omega
      have b1 : b ≤ 1 := by omega
      have hbn : b = ((n / 2 ^ k % 2 : Nat) : Int) := hb.trans Hbit.out
      have hp12 := pow12_le k
      have Hb := Lib.hid hb; clear hb
      have Hbn := Lib.hid hbn; clear hbn
      have Hp12 := Lib.hid hp12; clear hp12
      clear h1 Hbit s0 s1
      obtain ⟨wo, rfl⟩ : ∃ wo : World, wo = wr := ⟨_, rfl⟩
      go_loop [5, 6] (fun t i => ∃ (j : Nat) (v : Int), j ≤ k % 12 ∧ i = .int .i64 j ∧ t = .int .i64 v ∧ v = b * 2 ^ j) (fun _ i => k % 12 - (intOf i).toNat)
      case atStart => exact ⟨0, b, by omega, rfl, rfl, by simp⟩
      case round =>
        obtain ⟨j, v, hj, rfl, rfl, hv⟩ := hrel
        by_cases hjl : j < k % 12
        · have hvb := dbl_le b v j (k % 12) b0 b1 hjl Hp12.out hv
          obtain ⟨v0, v1⟩ := hvb
          have hj2 : (j : Int) < (k : Int) % 12 := by omega
          have Hv := Lib.hid hv; clear hv
          go_wp2_with fail
          go_round
          case measure => simp [intOf]; omega
          case rel => exact ⟨j + 1, 2 * v, by omega, by go_num, rfl, by rw [Hv.out, Int.pow_succ, Int.mul_comm 2, Int.mul_assoc]⟩
        · obtain rfl : j = k % 12 := by omega
          have hj2 : (k : Int) % 12 ≤ (((k % 12 : Nat) : Int)) := by omega
          have h2 := M2.out.cell (k / 12) (by omega)
          have hfz := M2.out.frozen (k / 12)
          have hy := room12 h n k (by omega) Hd.out Hs.out
          have hy0 := (Hd.out (k / 12) (by omega)).1
          obtain ⟨y, hyy⟩ : ∃ y, y = h (k / 12) := ⟨_, rfl⟩
          rw [← hyy] at h2 hy hy0
          have hvle : v ≤ 2 ^ (k % 12) := by
            have hpp : (0 : Int) < 2 ^ (k % 12) := Int.pow_pos (by decide)
            rcases (show b = 0 ∨ b = 1 by omega) with e | e
            · rw [hv, e]; omega
            · rw [hv, e]; omega
          have hv0 : 0 ≤ v := by
            have hpp : (0 : Int) < 2 ^ (k % 12) := Int.pow_pos (by decide)
            rcases (show b = 0 ∨ b = 1 by omega) with e | e
            · rw [hv, e]; omega
            · rw [hv, e]; omega
          have hyv : y + v < 4096 := by have := Hp12.out; omega
          clear hy hvle
          have k4 : (0 : Int) ≤ (k : Int) / 12 := by omega
          have k5 : (k : Int) / 12 < 44 := by omega
          have Hv := Lib.hid hv; clear hv
          have Hyy := Lib.hid hyy; clear hyy
          go_wp2_with fail
          go_roundw
          case measure => simp [intOf]; omega
          case rel =>
            refine ⟨k + 1, upd h (k / 12) (y + v), by omega, by go_num, ?_, ?_, M0.out.other _ _ (by simp <;> omega), M1.out.other _ _ (by simp <;> omega), M2.out.set _ _, hB.setCell (by simp <;> omega) _⟩
            · intro j hj
              by_cases e : j = k / 12
              · subst e; rw [upd_same]; omega
              · rw [upd_ne _ _ _ _ e]; exact Hd.out j hj
            · rw [sumf_upd _ _ _ _ _ (by omega), Hs.out, mod_succ_pow, ← Hyy.out, Hv.out, Hbn.out]
              have e := pow12 k
              have e2 : ((n % 2 ^ k + n / 2 ^ k % 2 * 2 ^ k : Nat) : Int) = ((n % 2 ^ k : Nat) : Int) + ((n / 2 ^ k % 2 : Nat) : Int) * 2 ^ k := by
                rw [Int.natCast_add, Int.natCast_mul, Int.natCast_pow]; rfl
              rw [e2, ← e]
              generalize ((n / 2 ^ k % 2 : Nat) : Int) = B
              generalize (2 : Int) ^ (k % 12) = U
              generalize (4096 : Int) ^ (k / 12) = V
              grind
    · obtain rfl : k = 255 := by omega
      have HC := Lib.hid (HI.out h Hd.out (by rw [Hs.out, ← Hm.out]))
      go_wp2_with (first | (refine wpList_load_row rfl 101 _ rfl (w.heap.size + 1 + 1) rfl 101 (row .i64 44 h) (0, 0) _ M2.out Try.underlying101 rfl (by rw [row_size]; kernel_rfl) ?_))
      refine (Hle.out h HC.out _).mono ?_
      rintro e w1 ⟨rfl, hb1⟩
      obtain ⟨Z, hZ, mz⟩ := M1.out.below hb1 M1.out.lt
      have HBB := Lib.hid (below_setRow (hB.trans (hb1.mono hB.size)) (w.heap.size + 1) (r22 r) (by omega))
      clear hb1
      have Mz := Lib.hid mz; clear mz
      have HZ := Lib.hid hZ; clear hZ
      go_wp2_with (refine wpList_store_row rfl 40 _ _ rfl (w.heap.size + 1) _ rfl rfl 40 Z Mz.out (by rw [r22_size]; kernel_rfl) (HZ.out.trans (r22_size _).symm) (row_one _ _ _) ?_)
      exact bodyPost_ret (v := .agg (r22 r)) (results_cell_row (t := 40) (by rfl) _ _ (w.heap.size + 1) _ _ _ rfl (Mz.out.setRow _) Try.underlying40 rfl (by rw [r22_size]; kernel_rfl)) rfl ⟨rfl, HBB.out⟩
end Go.Proofs.Ytjiagjonlcadiaa
