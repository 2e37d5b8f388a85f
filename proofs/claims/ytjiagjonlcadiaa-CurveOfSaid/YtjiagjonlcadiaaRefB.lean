/- The reference's Plus and Times. -/
import Derived.Test.YtjiagjonlcadiaaLeast
namespace Go.Proofs.Ytjiagjonlcadiaa
open Go.RowKit Go.Lib

theorem inv1_init (n : Nat) (h : Nat → Int) (hb : ∀ i, i < 44 → 0 ≤ h i ∧ h i ≤ 1099511627776) (hs : sumf 4096 h 44 = n) (hn : n < bnd 0) : Inv1 n 0 h :=
  ⟨hb, ⟨n, hs, rfl, hn⟩, fun h => by omega, fun h => by omega⟩
theorem bnd0 : bnd 0 = 878694100496718043517683302282418331810487718418343092402491322775749527474899974671687634004666183037093927858109549828751614463963730408009475621262727315456 := by unfold bnd; rw [if_pos rfl]
theorem n22 : (4096 : Nat) ^ 22 = 29642774844752946028434172162224104410437116074403984394101141506025761187823616 := by decide +kernel
theorem sumf_dg22 (a : Nat) (ha : a < 4096 ^ 22) : sumf 4096 (dg 4096 a) 22 = a := by
  have := sumf_dg 4096 a 22
  rwa [Nat.mod_eq_of_lt ha] at this
theorem dg_le (n i : Nat) : dg 4096 n i ≤ 4095 := by have := (dg_bd 4096 n i (by decide)).2; omega
theorem dg_nn (n i : Nat) : 0 ≤ dg 4096 n i := (dg_bd 4096 n i (by decide)).1

theorem plus_inv (a b : Nat) (ha : a < 4096 ^ 22) (hb : b < 4096 ^ 22) (h : Nat → Int) (hl : ∀ i, i < 22 → h i = dg 4096 a i + dg 4096 b i) (hh : ∀ i, 22 ≤ i → h i = 0) : Inv1 (a + b) 0 h := by
  refine inv1_init _ h (fun i hi => ?_) ?_ ?_
  · by_cases h2 : i < 22
    · rw [hl i h2]
      have h1 := dg_le a i; have h3 := dg_le b i; have h4 := dg_nn a i; have h5 := dg_nn b i
      omega
    · rw [hh i (by omega)]; omega
  · rw [show (44 : Nat) = 22 + 22 from rfl, sumf_split, sumf_zero 4096 (fun j => h (j + 22)) 22 (fun i hi => hh (i + 22) (by omega)), sumf_congr 4096 h (fun j => dg 4096 a j + 1 * dg 4096 b j) 22 (fun i hi => by rw [hl i hi, Int.one_mul]), sumf_lin, sumf_dg22 a ha, sumf_dg22 b hb]
    omega
  · rw [bnd0]; rw [n22] at ha hb; omega

set_option maxHeartbeats 1000000 in
theorem rplus_any (a b : Nat) (ha : a < 4096 ^ 22) (hb : b < 4096 ^ 22) (w : World) :
    Calls Try.prog 38 #[.agg (r22 a), .agg (r22 b)] w fun e w' => e = .returned (.agg (r22 ((a + b) % PP))) ∧ Below w.heap.size w w' := by
  have HI := Lib.hid (plus_inv a b ha hb); clear ha hb
  go_enter Try.func38, Try.ntmps38
  go_wp2_with fail
  go_loopw [6] (fun i wr => ∃ (k : Nat) (h : Nat → Int), k ≤ 22 ∧ i = .int .i64 k ∧ (∀ j, j < k → h j = dg 4096 a j + dg 4096 b j) ∧ (∀ j, k ≤ j → h j = 0) ∧ Has wr w.heap.size (r22 a) 40 ∧ Has wr (w.heap.size + 1) (r22 b) 40 ∧ HasN wr (w.heap.size + 1 + 1) 22 40 ∧ Has wr (w.heap.size + 1 + 1 + 1) (row .i64 44 h) 101 ∧ Below w.heap.size w wr) (fun i _ => 22 - (intOf i).toNat)
  case atStart =>
    exact ⟨0, fun _ => 0, by omega, rfl, fun j hj => by omega, fun _ _ => rfl, ((Has.new _ _ _).alloc _ |>.alloc _).alloc _, ((Has.new1 _ _ _ _).alloc _).alloc _, (HasN.new2 _ _ _ _ _ 22 rfl).alloc _, Has.new3 _ _ _ _ _ _, below_4 _ _ _ _ _⟩
  case round =>
    obtain ⟨k, h, hk, rfl, hl, hh, m0, m1, m2, m3, hB⟩ := hrel
    have M0 := Lib.hid m0; clear m0
    have M1 := Lib.hid m1; clear m1
    have M2 := Lib.hid m2; clear m2
    have M3 := Lib.hid m3; clear m3
    have HL := Lib.hid hl; clear hl
    have HH := Lib.hid hh; clear hh
    by_cases hlt : k < 22
    · have h1 := M0.out.cell k hlt
      have h2 := M1.out.cell k hlt
      have h3 := M3.out.cell k (by omega)
      have hfz := M3.out.frozen k
      have x0 := dg_nn a k
      have x1 := dg_le a k
      have y0 := dg_nn b k
      have y1 := dg_le b k
      obtain ⟨x, hx⟩ : ∃ x, x = dg 4096 a k := ⟨_, rfl⟩
      obtain ⟨y, hy⟩ : ∃ y, y = dg 4096 b k := ⟨_, rfl⟩
      rw [← hx] at h1 x0 x1
      rw [← hy] at h2 y0 y1
      have Hx := Lib.hid hx; clear hx
      have Hy := Lib.hid hy; clear hy
      go_wp2_with fail
      go_region
      go_wp2_with fail
      go_roundw
      case measure => simp [intOf]; omega
      case rel =>
        refine ⟨k + 1, upd h k (x + y), by omega, by go_num, ?_, ?_, M0.out.other _ _ (by simp <;> omega), M1.out.other _ _ (by simp <;> omega), M2.out.other _ _ (by simp), M3.out.set _ _, (hB.setCell (by simp <;> omega) _).drew⟩
        · intro j hj
          by_cases e : j = k
          · subst e; rw [upd_same, Hx.out, Hy.out]
          · rw [upd_ne _ _ _ _ e]; exact HL.out j (by omega)
        · intro j hj; rw [upd_ne _ _ _ _ (by omega)]; exact HH.out j (by omega)
    · obtain rfl : k = 22 := by omega
      have HC := Lib.hid (HI.out h HL.out HH.out)
      go_wp2_with (first | (refine wpList_load_row rfl 101 _ rfl (w.heap.size + 1 + 1 + 1) rfl 101 (row .i64 44 h) (0, 0) _ M3.out Try.underlying101 rfl (by kernel_rfl) ?_))
      refine (least_any _ h HC.out _).mono ?_
      rintro e w1 ⟨rfl, hb1⟩
      obtain ⟨Z, hZ, m1⟩ := M2.out.below hb1 M2.out.lt
      have P1 := Lib.hid m1; clear m1
      have HZ := Lib.hid hZ; clear hZ
      have HBB := Lib.hid (below_setRow (hB.trans (hb1.mono hB.size)) (w.heap.size + 1 + 1) (r22 ((a + b) % PP)) (by omega))
      clear hb1
      go_wp2_with (refine wpList_store_row rfl 40 _ _ rfl (w.heap.size + 1 + 1) _ rfl rfl 40 Z P1.out (by rw [r22_size]; kernel_rfl) (HZ.out.trans (r22_size _).symm) (row_one _ _ _) ?_)
      exact bodyPost_ret (v := .agg (r22 ((a + b) % PP))) (results_cell_row (t := 40) (by rfl) _ _ (w.heap.size + 1 + 1) _ _ _ rfl (P1.out.setRow _) Try.underlying40 rfl (by rw [r22_size]; kernel_rfl)) rfl ⟨rfl, HBB.out⟩
end Go.Proofs.Ytjiagjonlcadiaa
