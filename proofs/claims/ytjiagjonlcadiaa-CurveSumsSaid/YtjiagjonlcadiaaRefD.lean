/- The reference's half, Of, Key. -/
import Derived.Test.YtjiagjonlcadiaaRefC
import Derived.Laws.ShiftsVarLaws
namespace Go.Proofs.Ytjiagjonlcadiaa
open Go.RowKit Go.Lib

theorem half_fig (n i : Nat) : dg 4096 (n / 2) i = (dg 4096 n i + dg 4096 n (i + 1) % 2 * 4096) / 2 := by
  unfold dg
  have e1 : n / 2 / 4096 ^ i = n / 4096 ^ i / 2 := by rw [Nat.div_div_eq_div_mul, Nat.div_div_eq_div_mul, Nat.mul_comm]
  have e2 : n / 4096 ^ (i + 1) = n / 4096 ^ i / 4096 := by rw [Nat.pow_succ, Nat.div_div_eq_div_mul]
  rw [e1, e2]
  generalize n / 4096 ^ i = q
  omega
theorem half_top (n : Nat) (hn : n < 4096 ^ 22) : dg 4096 n 22 = 0 := by
  unfold dg
  rw [Nat.div_eq_of_lt hn]; rfl
theorem half_last (n : Nat) (hn : n < 4096 ^ 22) : dg 4096 (n / 2) 21 = dg 4096 n 21 / 2 := by
  rw [half_fig, half_top n hn]; omega

set_option maxRecDepth 100000 in
set_option maxHeartbeats 1000000 in
theorem half_any (n : Nat) (hn : n < 4096 ^ 22) (w : World) :
    Calls Try.prog 86 #[.agg (r22 n)] w fun e w' => e = .returned (.agg (r22 (n / 2))) ∧ Below w.heap.size w w' := by
  have HE := Lib.hid (half_fig n)
  have HL := Lib.hid (half_last n hn); clear hn
  obtain ⟨d, hd⟩ : ∃ d, d = n / 2 := ⟨_, rfl⟩
  rw [← hd] at HE HL ⊢
  clear hd
  go_enter Try.func86, Try.ntmps86
  go_wp2_with fail
  go_loopw [3] (fun i wr => ∃ (k : Nat) (h : Nat → Int), k ≤ 22 ∧ i = .int .i64 k ∧ (∀ j, j < k → h j = dg 4096 d j) ∧ (∀ j, k ≤ j → h j = dg 4096 n j) ∧ Has wr w.heap.size (row .i64 22 h) 40 ∧ HasN wr (w.heap.size + 1) 22 40 ∧ Below w.heap.size w wr) (fun i _ => 22 - (intOf i).toNat)
  case atStart => exact ⟨0, dg 4096 n, by omega, rfl, fun j hj => by omega, fun _ _ => rfl, (Has.new _ _ _).alloc _, HasN.new1 _ _ _ _ 22 rfl, below_2 _ _ _⟩
  case round =>
    obtain ⟨k, h, hk, rfl, hl, hh, m0, m1, hB⟩ := hrel
    have M0 := Lib.hid m0; clear m0
    have M1 := Lib.hid m1; clear m1
    have Hl := Lib.hid hl; clear hl
    have Hh := Lib.hid hh; clear hh
    by_cases hlt : k < 22
    · have h1 := M0.out.cell k hlt
      have hfz := M0.out.frozen k
      have x0 := dg_nn n k
      have x1 := dg_le n k
      have y0 := dg_nn n (k + 1)
      have y1 := dg_le n (k + 1)
      rw [Hh.out k (Nat.le_refl _)] at h1
      obtain ⟨x, hx⟩ : ∃ x, x = dg 4096 n k := ⟨_, rfl⟩
      obtain ⟨y, hy⟩ : ∃ y, y = dg 4096 n (k + 1) := ⟨_, rfl⟩
      rw [← hx] at h1 x0 x1
      rw [← hy] at y0 y1
      by_cases hl21 : k < 21
      · have h2 := M0.out.cell (k + 1) (by omega)
        rw [Hh.out (k + 1) (by omega), ← hy] at h2
        have hres : dg 4096 d k = (x + y % 2 * 4096) / 2 := by rw [hx, hy]; exact HE.out k
        have HR := Lib.hid hres; clear hres
        have Hx := Lib.hid hx; clear hx
        have Hy := Lib.hid hy; clear hy
        go_wp2_with fail
        go_roundw
        case measure => simp [intOf]; omega
        case rel =>
          refine ⟨k + 1, upd h k ((x + y % 2 * 4096) / 2), by omega, by go_num, ?_, ?_, M0.out.set _ _, M1.out.other _ _ (by simp <;> omega), hB.setCell (by simp <;> omega) _⟩
          · intro j hj
            by_cases e : j = k
            · subst e; rw [upd_same, HR.out]
            · rw [upd_ne _ _ _ _ e]; exact Hl.out j (by omega)
          · intro j hj; rw [upd_ne _ _ _ _ (by omega)]; exact Hh.out j (by omega)
      · obtain rfl : k = 21 := by omega
        have hres : dg 4096 d 21 = x / 2 := by rw [hx]; exact HL.out
        have HR := Lib.hid hres; clear hres
        have Hx := Lib.hid hx; clear hx
        have Hy := Lib.hid hy; clear hy
        go_wp2_with fail
        go_roundw
        case measure => simp [intOf]
        case rel =>
          refine ⟨22, upd h 21 (x / 2), by omega, by go_num, ?_, ?_, M0.out.set _ _, M1.out.other _ _ (by simp <;> omega), hB.setCell (by simp <;> omega) _⟩
          · intro j hj
            by_cases e : j = 21
            · subst e; rw [upd_same, HR.out]
            · rw [upd_ne _ _ _ _ e]; exact Hl.out j (by omega)
          · intro j hj; rw [upd_ne _ _ _ _ (by omega)]; exact Hh.out j (by omega)
    · obtain rfl : k = 22 := by omega
      have m0 := M0.out
      rw [row_ext .i64 22 h (dg 4096 d) (fun i hi => Hl.out i hi)] at m0
      have M2 := Lib.hid (show Has wr w.heap.size (r22 d) 40 from m0); clear m0
      obtain ⟨Z, hZ, mz⟩ := M1.out
      have MZ := Lib.hid mz; clear mz
      have HZ := Lib.hid hZ; clear hZ
      go_wp2_with (first | (refine wpList_load_row rfl 40 _ rfl (w.heap.size) rfl 40 (r22 d) (0, 0) _ M2.out Try.underlying40 rfl (by rw [r22_size]; kernel_rfl) ?_) | (refine wpList_store_row rfl 40 _ _ rfl (w.heap.size + 1) _ rfl rfl 40 Z MZ.out (by rw [r22_size]; kernel_rfl) (HZ.out.trans (r22_size _).symm) (row_one _ _ _) ?_))
      exact bodyPost_ret (v := .agg (r22 d)) (results_cell_row (t := 40) (by rfl) _ _ (w.heap.size + 1) _ _ _ rfl (MZ.out.setRow _) Try.underlying40 rfl (by rw [r22_size]; kernel_rfl)) rfl ⟨rfl, below_setRow hB _ _ (by omega)⟩
end Go.Proofs.Ytjiagjonlcadiaa
