/- The program's field: a sum that stays below 2^256 is exact; least. -/
import Derived.Test.YtjiagjonlcadiaaFldE
import Derived.LoopN
namespace Go.Proofs.Ytjiagjonlcadiaa
open Go.RowKit Go.Lib

set_option maxRecDepth 100000 in
set_option maxHeartbeats 1000000 in
theorem fold_0 (n : Nat) (w : World) : Calls Try.prog 77 #[.agg (e4 n), .int .u64 (0 : Nat)] w fun e w' => e = .returned (.agg (e4 n)) ∧ Below w.heap.size w w' := by
  go_enter Try.func77, Try.ntmps77
  have M0 := Lib.hid ((Has.new w (e4 n) 36).alloc (.cells (#[.int .u64 0, .int .u64 0, .int .u64 0, .int .u64 0] : Array Value) 36))
  obtain ⟨Z, hZ, mz⟩ := HasN.new1 w (.cells (e4 n) 36) (#[.int .u64 0, .int .u64 0, .int .u64 0, .int .u64 0] : Array Value) 36 4 rfl
  have HBB := Lib.hid (below_setRow (below_2 w (.cells (e4 n) 36) (.cells (#[.int .u64 0, .int .u64 0, .int .u64 0, .int .u64 0] : Array Value) 36)) (w.heap.size + 1) (e4 n) (by omega))
  have Mz := Lib.hid mz; clear mz
  have HZ := Lib.hid hZ; clear hZ
  go_wp2_with fail
  refine wp_loop_rounds 1 ?_
  rw [rounds_succ]
  go_wp2_with (first | (refine wpList_load_row rfl 36 _ rfl (w.heap.size) rfl 36 (e4 n) (0, 0) _ M0.out Try.underlying36 rfl (by rw [e4_size]; kernel_rfl) ?_) | (refine wpList_store_row rfl 36 _ _ rfl (w.heap.size + 1) _ rfl rfl 36 Z Mz.out (by rw [e4_size]; kernel_rfl) (HZ.out.trans (e4_size _).symm) (row_one _ _ _) ?_))
  exact bodyPost_ret (v := .agg (e4 n)) (results_cell_row (t := 36) (by rfl) _ _ (w.heap.size + 1) _ _ _ rfl (Mz.out.setRow _) Try.underlying36 rfl (by rw [e4_size]; kernel_rfl)) rfl ⟨rfl, HBB.out⟩

set_option maxRecDepth 100000 in
set_option maxHeartbeats 2000000 in
theorem plus_exact (a b : Nat) (ha : a < 115792089237316195423570985008687907853269984665640564039457584007913129639936) (hb : b < 115792089237316195423570985008687907853269984665640564039457584007913129639936) (hab : a + b < 115792089237316195423570985008687907853269984665640564039457584007913129639936) (w : World) :
    Calls Try.prog 37 #[.agg (e4 a), .agg (e4 b)] w fun e w' => e = .returned (.agg (e4 (a + b))) ∧ Below w.heap.size w w' := by
  obtain ⟨r, hr⟩ : ∃ r, r = a + b := ⟨_, rfl⟩
  rw [← hr] at hab ⊢
  have Ha := Lib.hid ha; clear ha
  have Hb := Lib.hid hb; clear hb
  have Hr := Lib.hid hr; clear hr
  have Hab := Lib.hid hab; clear hab
  go_enter Try.func37, Try.ntmps37
  go_wp2_with fail
  go_loopw [5, 7] (fun s i wr => ∃ (k : Nat) (h : Nat → Int) (c : Int), k ≤ 4 ∧ i = .int .i64 k ∧ s = .int .u64 c ∧ 0 ≤ c ∧ c ≤ 1 ∧ (∀ j, j < k → 0 ≤ h j ∧ h j < 18446744073709551616) ∧ (∀ j, k ≤ j → h j = dg 18446744073709551616 a j) ∧ sumf 18446744073709551616 h k + c * 18446744073709551616 ^ k = sumf 18446744073709551616 (dg 18446744073709551616 a) k + sumf 18446744073709551616 (dg 18446744073709551616 b) k ∧ Has wr w.heap.size (row .u64 4 h) 36 ∧ Has wr (w.heap.size + 1) (e4 b) 36 ∧ HasN wr (w.heap.size + 1 + 1) 4 36 ∧ Below w.heap.size w wr) (fun _ i _ => 4 - (intOf i).toNat)
  case atStart => exact ⟨0, dg 18446744073709551616 a, 0, by omega, rfl, rfl, by omega, by omega, fun j hj => by omega, fun _ _ => rfl, by simp [sumf], ((Has.new _ _ _).alloc _).alloc _, (Has.new1 _ _ _ _).alloc _, HasN.new2 _ _ _ _ _ 4 rfl, below_3 _ _ _ _⟩
  case round =>
    obtain ⟨k, h, c, hk, rfl, rfl, c0, c1, hd, hg, hs, m0, m1, m2, hB⟩ := hrel
    have M0 := Lib.hid m0; clear m0
    have M1 := Lib.hid m1; clear m1
    have M2 := Lib.hid m2; clear m2
    have Hd := Lib.hid hd; clear hd
    have Hg := Lib.hid hg; clear hg
    have Hs := Lib.hid hs; clear hs
    by_cases hlt : k < 4
    · have h1 := M0.out.cell k hlt
      have h2 := M1.out.cell k hlt
      have hfz := M0.out.frozen k
      have x0 := w_nn a k
      have x1 := w_lt a k
      have y0 := w_nn b k
      have y1 := w_lt b k
      rw [Hg.out k (Nat.le_refl _)] at h1
      obtain ⟨x, hx⟩ : ∃ x, x = dg 18446744073709551616 a k := ⟨_, rfl⟩
      obtain ⟨y, hy⟩ : ∃ y, y = dg 18446744073709551616 b k := ⟨_, rfl⟩
      rw [← hx] at h1 x0 x1
      rw [← hy] at h2 y0 y1
      have ka := fun w => add64 x y c x0 y0 c0 c1 w
      obtain ⟨s, hss⟩ : ∃ s, s = (x + y + c) % 18446744073709551616 := ⟨_, rfl⟩
      obtain ⟨d, hdd⟩ : ∃ d, d = (x + y + c) / 18446744073709551616 := ⟨_, rfl⟩
      rw [← hss, ← hdd] at ka
      have s0 : 0 ≤ s := by omega
      have s1 : s < 18446744073709551616 := by omega
      have d0 : 0 ≤ d := by omega
      have d1 : d ≤ 1 := by omega
      have hsum : x + y + c = s + 18446744073709551616 * d := by omega
      have Hx := Lib.hid hx; clear hx
      have Hy := Lib.hid hy; clear hy
      have Hsum := Lib.hid hsum; clear hsum
      clear hss hdd
      go_wp2_with fail
      go_region
      go_wp2_with fail
      go_roundw
      case measure => simp [intOf]; omega
      case rel =>
        refine ⟨k + 1, upd h k s, d, by omega, by go_num, rfl, d0, d1, ?_, ?_, ?_, M0.out.set _ _, M1.out.other _ _ (by simp <;> omega), M2.out.other _ _ (by simp <;> omega), by first | exact hB.setCell (Nat.le_refl _) _ | exact (hB.setCell (Nat.le_refl _) _).drew⟩
        · intro j hj
          by_cases e : j = k
          · subst e; rw [upd_same]; exact ⟨s0, s1⟩
          · rw [upd_ne _ _ _ _ e]; exact Hd.out j (by omega)
        · intro j hj; rw [upd_ne _ _ _ _ (by omega)]; exact Hg.out j (by omega)
        · simp only [sumf]
          rw [sumf_upd_above _ _ _ _ _ (Nat.le_refl _), upd_same, ← Hx.out, ← Hy.out, Int.pow_succ]
          exact add_step _ _ _ _ _ _ _ _ _ Hs.out Hsum.out
    · obtain rfl : k = 4 := by omega
      obtain ⟨A', hA', hrow, hsum⟩ := e4_of h Hd.out
      have hs4 := Hs.out
      rw [hsum, sum4 a Ha.out, sum4 b Hb.out, p64_4] at hs4
      have m0 := M0.out
      rw [hrow] at m0
      obtain ⟨o', rfl⟩ := Int.eq_ofNat_of_zero_le c0
      have ho : o' = 0 := by have := Hr.out; have := Hab.out; omega
      subst ho
      have hf := fun w => fold_0 A' w
      rw [show A' = r by rw [Hr.out]; omega] at hf m0
      have M0 := Lib.hid m0; clear m0
      have Hf := Lib.hid hf; clear hf
      clear hrow hsum hs4 hA'
      go_wp2_with (refine wpList_load_row rfl 36 _ rfl (w.heap.size) rfl 36 (e4 r) (0, 0) _ M0.out Try.underlying36 rfl (by rw [e4_size]; kernel_rfl) ?_)
      refine (Hf.out _).mono ?_
      rintro e w1 ⟨rfl, b1⟩
      obtain ⟨Z, hZ, mz⟩ := M2.out.call b1
      have HBB := Lib.hid (below_setRow (held_next hB b1) (w.heap.size + 1 + 1) (e4 r) (by omega))
      have Mz := Lib.hid mz; clear mz
      have HZ := Lib.hid hZ; clear hZ
      clear b1
      go_wp2_with (refine wpList_store_row rfl 36 _ _ rfl (w.heap.size + 1 + 1) _ rfl rfl 36 Z Mz.out (by rw [e4_size]; kernel_rfl) (HZ.out.trans (e4_size _).symm) (row_one _ _ _) ?_)
      exact bodyPost_ret (v := .agg (e4 r)) (results_cell_row (t := 36) (by rfl) _ _ (w.heap.size + 1 + 1) _ _ _ rfl (Mz.out.setRow _) Try.underlying36 rfl (by rw [e4_size]; kernel_rfl)) rfl ⟨rfl, HBB.out⟩
end Go.Proofs.Ytjiagjonlcadiaa
