/- The reference's Times and Minus. -/
import Derived.Test.YtjiagjonlcadiaaRefB
namespace Go.Proofs.Ytjiagjonlcadiaa
open Go.RowKit Go.Lib

theorem mul_bd (x y : Int) (hx0 : 0 ≤ x) (hx : x ≤ 4095) (hy0 : 0 ≤ y) (hy : y ≤ 4095) : 0 ≤ x * y ∧ x * y ≤ 16769025 :=
  ⟨Int.mul_nonneg hx0 hy0, by have := Int.mul_le_mul hx hy hy0 (by decide); omega⟩

theorem times_inv (a b : Nat) (ha : a < PP) (hb : b < PP) (h : Nat → Int) (hd : ∀ j, j < 44 → 0 ≤ h j ∧ h j ≤ 484 * 16769025) (hs : sumf 4096 h 44 = sumf 4096 (dg 4096 a) 22 * b) : Inv1 (a * b) 0 h := by
  have h22 := PP_lt
  refine inv1_init _ h (fun i hi => by have := hd i hi; omega) ?_ ?_
  · rw [hs, sumf_dg22 a (by omega)]; norm_cast
  · rw [bnd0]
    have e : PP < 2 ^ 255 := by decide +kernel
    have h1 : a * b < 2 ^ 255 * 2 ^ 255 := Nat.mul_lt_mul'' (by omega) (by omega)
    have e2 : (2 : Nat) ^ 255 * 2 ^ 255 = 3351951982485649274893506249551461531869841455148098344430890360930441007518386744200468574541725856922507964546621512713438470702986642486608412251521024 := by decide +kernel
    omega

set_option maxHeartbeats 1000000 in
theorem rtimes_any (a b : Nat) (ha : a < PP) (hb : b < PP) (w : World) :
    Calls Try.prog 32 #[.agg (r22 a), .agg (r22 b)] w fun e w' => e = .returned (.agg (r22 (a * b % PP))) ∧ Below w.heap.size w w' := by
  have hb2 : (b : Int) = sumf 4096 (dg 4096 b) 22 := (sumf_dg22 b (Nat.lt_trans hb PP_lt)).symm
  have HB2 := Lib.hid hb2; clear hb2
  have HI := Lib.hid (times_inv a b ha hb); clear ha hb
  go_enter Try.func32, Try.ntmps32
  go_wp2_with fail
  go_loopw [6] (fun i wr => ∃ (k : Nat) (h : Nat → Int), k ≤ 22 ∧ i = .int .i64 k ∧ (∀ j, j < 44 → 0 ≤ h j ∧ h j ≤ 22 * (k : Int) * 16769025) ∧ sumf 4096 h 44 = sumf 4096 (dg 4096 a) k * b ∧ Has wr w.heap.size (r22 a) 40 ∧ Has wr (w.heap.size + 1) (r22 b) 40 ∧ HasN wr (w.heap.size + 1 + 1) 22 40 ∧ Has wr (w.heap.size + 1 + 1 + 1) (row .i64 44 h) 101 ∧ Below w.heap.size w wr) (fun i _ => 22 - (intOf i).toNat)
  case atStart =>
    exact ⟨0, fun _ => 0, by omega, rfl, fun j hj => by simp, by rw [sumf_zero _ _ _ (fun _ _ => rfl)]; simp [sumf], ((Has.new _ _ _).alloc _ |>.alloc _).alloc _, ((Has.new1 _ _ _ _).alloc _).alloc _, (HasN.new2 _ _ _ _ _ 22 rfl).alloc _, Has.new3 _ _ _ _ _ _, below_4 _ _ _ _ _⟩
  case round =>
    obtain ⟨i, h0, hi, rfl, hd, hs, m0, m1, m2, m3, hB⟩ := hrel
    have M0 := Lib.hid m0; clear m0
    have M1 := Lib.hid m1; clear m1
    have M2 := Lib.hid m2; clear m2
    have M3 := Lib.hid m3; clear m3
    have HD := Lib.hid hd; clear hd
    have HS := Lib.hid hs; clear hs
    by_cases hlt : i < 22
    · go_wp2_with fail
      obtain ⟨wo, rfl⟩ : ∃ wo : World, wo = wr := ⟨_, rfl⟩
      go_loopw [7] (fun s wr => ∃ (k : Nat) (h : Nat → Int), k ≤ 22 ∧ s = .int .i64 k ∧ (∀ j, j < 44 → 0 ≤ h j ∧ h j ≤ (22 * (i : Int) + k) * 16769025) ∧ sumf 4096 h 44 = sumf 4096 (dg 4096 a) i * b + dg 4096 a i * 4096 ^ i * sumf 4096 (dg 4096 b) k ∧ Has wr w.heap.size (r22 a) 40 ∧ Has wr (w.heap.size + 1) (r22 b) 40 ∧ HasN wr (w.heap.size + 1 + 1) 22 40 ∧ Has wr (w.heap.size + 1 + 1 + 1) (row .i64 44 h) 101 ∧ Below w.heap.size w wr) (fun s _ => 22 - (intOf s).toNat)
      case atStart => exact ⟨0, h0, by omega, rfl, fun j hj => by have := HD.out j hj; omega, by rw [show sumf 4096 (dg 4096 b) 0 = 0 from rfl, Int.mul_zero, Int.add_zero]; exact HS.out, M0.out, M1.out, M2.out, M3.out, hB⟩
      case round =>
        clear M0 M1 M2 M3 hB
        obtain ⟨k, h, hk, rfl, hd, hs, m0, m1, m2, m3, hB⟩ := hrel
        have M0 := Lib.hid m0; clear m0
        have M1 := Lib.hid m1; clear m1
        have M2 := Lib.hid m2; clear m2
        have M3 := Lib.hid m3; clear m3
        have HE := Lib.hid hd; clear hd
        have HT := Lib.hid hs; clear hs
        by_cases hlk : k < 22
        · have h1 := M0.out.cell i hlt
          have h2 := M1.out.cell k hlk
          have h3 := M3.out.cell (i + k) (by omega)
          have hfz := M3.out.frozen (i + k)
          have x0 := dg_nn a i
          have x1 := dg_le a i
          have y0 := dg_nn b k
          have y1 := dg_le b k
          have hz := HE.out (i + k) (by omega)
          obtain ⟨x, hx⟩ : ∃ x, x = dg 4096 a i := ⟨_, rfl⟩
          obtain ⟨y, hy⟩ : ∃ y, y = dg 4096 b k := ⟨_, rfl⟩
          obtain ⟨z, hzz⟩ : ∃ z, z = h (i + k) := ⟨_, rfl⟩
          rw [← hx] at h1 x0 x1
          rw [← hy] at h2 y0 y1
          rw [← hzz] at h3 hz
          have hxy := mul_bd x y x0 x1 y0 y1
          obtain ⟨xy0, xy1⟩ := hxy
          obtain ⟨z0, z1⟩ := hz
          have Hx := Lib.hid hx; clear hx
          have Hy := Lib.hid hy; clear hy
          have Hz := Lib.hid hzz; clear hzz
          go_wp2_with fail
          go_region
          go_wp2_with fail
          go_roundw
          case measure => simp [intOf]; omega
          case rel =>
            refine ⟨k + 1, upd h (i + k) (z + x * y), by omega, by go_num, ?_, ?_, M0.out.other _ _ (by simp <;> omega), M1.out.other _ _ (by simp <;> omega), M2.out.other _ _ (by simp <;> omega), M3.out.set _ _, (hB.setCell (by simp <;> omega) _).drew⟩
            · intro j hj
              by_cases e : j = i + k
              · subst e; rw [upd_same]; omega
              · rw [upd_ne _ _ _ _ e]; have := HE.out j hj; omega
            · rw [sumf_upd _ _ _ _ _ (by omega), HT.out, ← Hz.out, ← Hx.out]
              simp only [sumf]
              rw [← Hy.out, Int.pow_add]
              grind
        · obtain rfl : k = 22 := by omega
          go_wp2_with fail
          go_roundw
          case measure => simp [intOf]; omega
          case rel =>
            refine ⟨i + 1, h, by omega, by go_num, fun j hj => by have := HE.out j hj; omega, ?_, M0.out, M1.out, M2.out, M3.out, hB⟩
            rw [HT.out, ← HB2.out]
            simp only [sumf]
            rw [Int.add_mul]
    · obtain rfl : i = 22 := by omega
      have HC := Lib.hid (HI.out h0 (fun j hj => by have := HD.out j hj; omega) HS.out)
      go_wp2_with (first | (refine wpList_load_row rfl 101 _ rfl (w.heap.size + 1 + 1 + 1) rfl 101 (row .i64 44 h0) (0, 0) _ M3.out Try.underlying101 rfl (by kernel_rfl) ?_))
      refine (least_any _ h0 HC.out _).mono ?_
      rintro e w1 ⟨rfl, hb1⟩
      obtain ⟨Z, hZ, m1⟩ := M2.out.below hb1 M2.out.lt
      have P1 := Lib.hid m1; clear m1
      have HZ := Lib.hid hZ; clear hZ
      have HBB := Lib.hid (below_setRow (hB.trans (hb1.mono hB.size)) (w.heap.size + 1 + 1) (r22 (a * b % PP)) (by omega))
      clear hb1
      go_wp2_with (refine wpList_store_row rfl 40 _ _ rfl (w.heap.size + 1 + 1) _ rfl rfl 40 Z P1.out (by rw [r22_size]; kernel_rfl) (HZ.out.trans (r22_size _).symm) (row_one _ _ _) ?_)
      exact bodyPost_ret (v := .agg (r22 (a * b % PP))) (results_cell_row (t := 40) (by rfl) _ _ (w.heap.size + 1 + 1) _ _ _ rfl (P1.out.setRow _) Try.underlying40 rfl (by rw [r22_size]; kernel_rfl)) rfl ⟨rfl, HBB.out⟩

set_option maxRecDepth 100000 in
set_option maxHeartbeats 1000000 in
theorem rminus_any (a b : Nat) (ha : a < PP) (hb : b < PP) (w : World) :
    Calls Try.prog 40 #[.agg (r22 a), .agg (r22 b)] w fun e w' => e = .returned (.agg (r22 ((a + (PP - b)) % PP))) ∧ Below w.heap.size w w' := by
  have h22 := PP_lt
  have hpb : PP - b < 4096 ^ 22 := Nat.lt_of_le_of_lt (Nat.sub_le _ _) h22
  have ha2 := Nat.lt_trans ha h22
  obtain ⟨d, hd⟩ : ∃ d, d = PP - b := ⟨_, rfl⟩
  have hl := fun w => less_any PP b (Nat.le_of_lt hb) h22 w
  rw [← hd] at hl hpb ⊢
  have hp := fun w => rplus_any a d ha2 hpb w
  obtain ⟨r, hr⟩ : ∃ r, r = (a + d) % PP := ⟨_, rfl⟩
  rw [← hr] at hp ⊢
  have HL := Lib.hid hl; clear hl
  have HP := Lib.hid hp; clear hp
  clear hr hd ha hb h22 hpb ha2
  go_enter Try.func40, Try.ntmps40
  go_wp2_with fail
  refine wp_region_noPanic ?_
  refine wp_region_below 5 (by kernel_rfl) ?_
  intro W0 hW0
  have M0 := Lib.hid (show Has W0 w.heap.size (r22 a) 40 by rw [hW0]; exact ((Has.new _ _ _).alloc _).alloc _)
  have M1 := Lib.hid (show Has W0 (w.heap.size + 1) (r22 b) 40 by rw [hW0]; exact (Has.new1 _ _ _ _).alloc _)
  have M2 := Lib.hid (show HasN W0 (w.heap.size + 1 + 1) 22 40 by rw [hW0]; exact HasN.new2 _ _ _ _ _ 22 rfl)
  have HB := Lib.hid (show Below w.heap.size w W0 by rw [hW0]; exact below_3 _ _ _ _)
  clear hW0
  refine wpBut_take (i := 0) rfl (by kernel_rfl) (by kernel_rfl) (by kernel_rfl) (by kernel_rfl) (by kernel_rfl) (fun _ _ _ h => h) (yieldsIf_load_row (by rfl) 40 _ rfl (w.heap.size) rfl 40 (r22 a) (fun _ h => M0.out.below h M0.out.lt) Try.underlying40 rfl (by rw [r22_size]; kernel_rfl)) ((Below.refl _ _).drew) ?_
  (try simp only [Act.put]); (try simp only [List.setIfInBounds_toArray])
  refine wpBut_take (i := 2) rfl (by kernel_rfl) (by kernel_rfl) (by kernel_rfl) (by kernel_rfl) (by kernel_rfl) (fun _ _ _ h => h) (yieldsIf_load_row (by rfl) 40 _ rfl (w.heap.size + 1) rfl 40 (r22 b) (fun _ h => M1.out.below h M1.out.lt) Try.underlying40 rfl (by rw [r22_size]; kernel_rfl)) ((Below.refl _ _).drew) ?_
  (try simp only [Act.put]); (try simp only [List.setIfInBounds_toArray])
  refine wpBut_one (i := 1) (by kernel_rfl) rfl (fun K hK => ?_)
  go_simp
  go_at_call 82
  refine (prime_any _).mono ?_
  rintro e wW01 ⟨rfl, hb⟩
  have hkW01 := held_next (Below.refl _ _).drew hb
  refine hK.out _ _ (fun _ => hkW01) ?_
  clear hK K hb
  refine wpBut_one (i := 3) (by kernel_rfl) rfl (fun K hK => ?_)
  go_simp
  go_at_call 81
  refine (HL.out _).mono ?_
  rintro e wW02 ⟨rfl, hb⟩
  have hkW02 := held_next hkW01 hb
  refine hK.out _ _ (fun _ => hkW02) ?_
  clear hK K hb
  refine wpBut_one (i := 4) (by kernel_rfl) rfl (fun K hK => ?_)
  go_simp
  go_at_call 38
  refine (HP.out _).mono ?_
  rintro e wW03 ⟨rfl, hb⟩
  have hkW03 := held_next hkW02 hb
  refine hK.out _ _ (fun _ => hkW03) ?_
  clear hK K hb
  obtain ⟨Z, hZ, mZ⟩ := M2.out.below hkW03 M2.out.lt
  have MZ := Lib.hid mZ; clear mZ
  have HZ := Lib.hid hZ; clear hZ
  refine wpBut_one (i := 5) (by kernel_rfl) rfl (fun K hK => ?_)
  rw [if_pos (by rfl)]
  refine wp_store_row 40 _ _ rfl (w.heap.size + 1 + 1) _ rfl rfl 40 Z MZ.out (by rw [r22_size]; kernel_rfl) (HZ.out.trans (r22_size _).symm) (row_one _ _ _) ?_
  refine hK.out _ _ (fun h => (h rfl).elim) ?_
  clear hK K
  (try simp only [Act.put]); (try simp only [List.setIfInBounds_toArray])
  refine wpBut_done (by kernel_rfl) (NoPanic.normal ?_)
  go_wp2_with fail
  exact bodyPost_ret (v := .agg (r22 r)) (results_cell_row (t := 40) (by rfl) _ _ (w.heap.size + 1 + 1) _ _ _ rfl (MZ.out.setRow _) Try.underlying40 rfl (by rw [r22_size]; kernel_rfl)) rfl ⟨rfl, below_setRow (HB.out.trans (hkW03.mono HB.out.size)) _ _ (by omega)⟩
end Go.Proofs.Ytjiagjonlcadiaa
