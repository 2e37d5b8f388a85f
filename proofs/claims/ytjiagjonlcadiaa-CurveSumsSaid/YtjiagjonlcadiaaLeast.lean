/- The walk of the reference's 'least'. -/
import Derived.Test.YtjiagjonlcadiaaLeastM
import Derived.BigRegion
import Derived.Deep.RegionHeld3
import Derived.Test.YtjiagjonlcadiaaOrd
namespace Go.Proofs.Ytjiagjonlcadiaa
open Go.RowKit Go.Lib

theorem PP_pos : 0 < PP := by decide +kernel
theorem lt_p22 (n : Nat) (h : n < 57896044618658097711785492504343953926634992332820282019728792003956564819968) : n < 4096 ^ 22 := Nat.lt_trans h (by decide +kernel)

set_option maxRecDepth 100000 in
set_option maxHeartbeats 4000000 in
theorem least_any (n : Nat) (f : Nat → Int) (hf : Inv1 n 0 f) (w : World) :
    Calls Try.prog 78 #[.agg (row .i64 44 f)] w fun e w' => e = .returned (.agg (r22 (n % PP))) ∧ Below w.heap.size w w' := by
  have HF := Lib.hid hf; clear hf
  go_enter Try.func78, Try.ntmps78
  go_wp2_with fail
  go_loopw [3] (fun i wr => ∃ (k : Nat) (h : Nat → Int), k ≤ 5 ∧ i = .int .i64 k ∧ Inv1 n k h ∧ Has wr w.heap.size (row .i64 44 h) 101 ∧ HasN wr (w.heap.size + 1) 22 40 ∧ Below w.heap.size w wr) (fun i _ => 5 - (intOf i).toNat)
  case atStart => exact ⟨0, f, by omega, rfl, HF.out, (Has.new _ _ _).alloc _, HasN.new1 _ _ _ _ 22 rfl, below_2 _ _ _⟩
  case round =>
    obtain ⟨k, h, hk, rfl, hI, m0, m1, hB⟩ := hrel
    have M0 := Lib.hid m0; clear m0
    have M1 := Lib.hid m1; clear m1
    have HI := Lib.hid hI; clear hI
    by_cases hlt : k < 5
    · -- the pass of the carry
      go_wp2_with fail
      obtain ⟨w1, rfl⟩ : ∃ w1 : World, w1 = wr := ⟨_, rfl⟩
      go_loopw [4, 5] (fun c i wr => ∃ (j : Nat) (g : Nat → Int) (cv : Int), j ≤ 44 ∧ i = .int .i64 j ∧ c = .int .i64 cv ∧ 0 ≤ cv ∧ cv ≤ 1073741824 ∧ (∀ l, j ≤ l → g l = h l) ∧ (∀ l, l < j → 0 ≤ g l ∧ g l < 4096) ∧ sumf 4096 g j + cv * 4096 ^ j = sumf 4096 h j ∧ Has wr w.heap.size (row .i64 44 g) 101 ∧ HasN wr (w.heap.size + 1) 22 40 ∧ Below w.heap.size w wr) (fun _ i _ => 44 - (intOf i).toNat)
      case atStart => exact ⟨0, h, 0, by omega, rfl, rfl, by omega, by omega, fun _ _ => rfl, fun l hl => by omega, by simp [sumf], M0.out, M1.out, hB⟩
      case round =>
        obtain ⟨j, g, cv, hj, rfl, rfl, hc0, hc1, hg, hd, hs, m0, m1, hB'⟩ := hrel
        have N0 := Lib.hid m0; clear m0
        have N1 := Lib.hid m1; clear m1
        have HG := Lib.hid hg; clear hg
        have HD := Lib.hid hd; clear hd
        have HS := Lib.hid hs; clear hs
        by_cases hjl : j < 44
        · have h1 := N0.out.cell j hjl
          have hfz := N0.out.frozen j
          have hx1 := HI.out.bd j hjl
          rw [← HG.out j (Nat.le_refl _)] at hx1
          obtain ⟨x, hx⟩ : ∃ x, x = g j := ⟨_, rfl⟩
          rw [← hx] at h1 hx1
          have Hx := Lib.hid hx; clear hx
          obtain ⟨hx0, hx1⟩ := hx1
          go_wp2_with fail
          go_roundw
          case measure => simp [intOf]; omega
          case rel =>
            refine ⟨j + 1, upd g j ((x + cv) % 4096), (x + cv) / 4096, by omega, by go_num, rfl, by omega, by omega, ?_, ?_, ?_, N0.out.set _ _, N1.out.other _ _ (by simp), hB'.setCell (by simp) _⟩
            · intro l hl; rw [upd_ne _ _ _ _ (by omega)]; exact HG.out l (by omega)
            · intro l hl
              by_cases e : l = j
              · subst e; rw [upd_same]; omega
              · rw [upd_ne _ _ _ _ e]; exact HD.out l (by omega)
            · simp only [sumf]
              rw [sumf_upd_above _ _ _ _ _ (Nat.le_refl _), upd_same, ← HG.out j (Nat.le_refl _), ← Hx.out, Int.pow_succ]
              exact carry_step _ _ _ _ _ _ _ HS.out (by omega)
        · obtain rfl : j = 44 := by omega
          have hI2 := inv2_of n k h g cv HI.out hc0 HD.out HS.out
          have HI2 := Lib.hid hI2; clear hI2
          clear HD HS HG hjl hj M0 M1 HI hB
          -- the fold
          go_wp2_with fail
          obtain ⟨w2, rfl⟩ : ∃ w2 : World, w2 = wr := ⟨_, rfl⟩
          go_loopw [7] (fun i wr => ∃ (j : Nat) (u : Nat → Int), j ≤ 22 ∧ i = .int .i64 j ∧ (∀ l, l < j → u l = g l + 9728 * g (l + 22) ∧ u (l + 22) = 0) ∧ (∀ l, j ≤ l → l < 22 → u l = g l ∧ u (l + 22) = g (l + 22)) ∧ Has wr w.heap.size (row .i64 44 u) 101 ∧ HasN wr (w.heap.size + 1) 22 40 ∧ Below w.heap.size w wr) (fun i _ => 22 - (intOf i).toNat)
          case atStart => exact ⟨0, g, by omega, rfl, fun l hl => by omega, fun _ _ _ => ⟨rfl, rfl⟩, N0.out, N1.out, hB'⟩
          case round =>
            obtain ⟨j, u, hj, rfl, hu1, hu2, m0, m1, hB⟩ := hrel
            have O0 := Lib.hid m0; clear m0
            have O1 := Lib.hid m1; clear m1
            have HU1 := Lib.hid hu1; clear hu1
            have HU2 := Lib.hid hu2; clear hu2
            by_cases hjl : j < 22
            · have h1 := O0.out.cell j (by omega)
              have h2 := O0.out.cell (j + 22) (by omega)
              have hf1 := O0.out.frozen j
              have hf2 := O0.out.frozen (j + 22)
              have hy1 := HI2.out.bd j (by omega)
              have hz1 := HI2.out.bd (j + 22) (by omega)
              rw [← (HU2.out j (Nat.le_refl _) hjl).1] at hy1
              rw [← (HU2.out j (Nat.le_refl _) hjl).2] at hz1
              obtain ⟨y, hy⟩ : ∃ y, y = u j := ⟨_, rfl⟩
              obtain ⟨z, hz⟩ : ∃ z, z = u (j + 22) := ⟨_, rfl⟩
              rw [← hy] at h1 hy1
              rw [← hz] at h2 hz1
              have Hy := Lib.hid hy; clear hy
              have Hz := Lib.hid hz; clear hz
              obtain ⟨hy0, hy1⟩ := hy1
              obtain ⟨hz0, hz1⟩ := hz1
              have hne : (j = j + 22) = False := by simp
              go_wp2_with fail
              go_region
              go_wp2_with fail
              go_roundw
              case measure => simp [intOf]; omega
              case rel =>
                refine ⟨j + 1, upd (upd u j (y + 9728 * z)) (j + 22) 0, by omega, by go_num, ?_, ?_, (O0.out.set _ _).set _ _, (O1.out.other _ _ (by simp)).other _ _ (by simp), ((hB.setCell (Nat.le_refl _) _).setCell (Nat.le_refl _) _).drew⟩
                · intro l hl
                  by_cases e : l = j
                  · subst e
                    rw [upd_ne _ _ _ _ (by omega), upd_same, upd_same, Hy.out, Hz.out, (HU2.out l (Nat.le_refl _) hjl).1, (HU2.out l (Nat.le_refl _) hjl).2]
                    exact ⟨rfl, rfl⟩
                  · rw [upd_ne _ _ _ _ (by omega), upd_ne _ _ _ _ e, upd_ne _ _ _ _ (by omega), upd_ne _ _ _ _ (by omega)]
                    exact HU1.out l (by omega)
                · intro l hl hl'
                  rw [upd_ne _ _ _ _ (by omega), upd_ne _ _ _ _ (by omega), upd_ne _ _ _ _ (by omega), upd_ne _ _ _ _ (by omega)]
                  exact HU2.out l (by omega) hl'
            · obtain rfl : j = 22 := by omega
              have hI1 := inv1_of n k g hlt HI2.out u (fun i hi => (HU1.out i hi).1) (fun i hi hi' => by
                have := (HU1.out (i - 22) (by omega)).2
                rwa [show i - 22 + 22 = i by omega] at this)
              have HI1 := Lib.hid hI1; clear hI1
              clear HU1 HU2 hjl hj N0 N1 HI2 hB'
              go_wp2_with fail
              go_roundw
              case measure => simp [intOf]; omega
              case rel => exact ⟨k + 1, u, by omega, by go_num, HI1.out, O0.out, O1.out, hB⟩
    · obtain rfl : k = 5 := by omega
      have HI4 := Lib.hid (inv4_of n h HI.out)
      clear HI hlt hk HF
      go_wp2_with fail
      obtain ⟨w1, rfl⟩ : ∃ w1 : World, w1 = wr := ⟨_, rfl⟩
      -- what is beyond 255 bits
      go_loopw [8] (fun i wr => ∃ (k : Nat) (h : Nat → Int), k ≤ 2 ∧ i = .int .i64 k ∧ Inv4 n k h ∧ Has wr w.heap.size (row .i64 44 h) 101 ∧ HasN wr (w.heap.size + 1) 22 40 ∧ Below w.heap.size w wr) (fun i _ => 2 - (intOf i).toNat)
      case atStart => exact ⟨0, h, by omega, rfl, HI4.out, M0.out, M1.out, hB⟩
      case round =>
        clear M0 M1 HI4 hB
        obtain ⟨k, h, hk, rfl, hI, m0, m1, hB⟩ := hrel
        have M0 := Lib.hid m0; clear m0
        have M1 := Lib.hid m1; clear m1
        have HI := Lib.hid hI; clear hI
        by_cases hlt : k < 2
        · have h1 := M0.out.cell 0 (by omega)
          have h2 := M0.out.cell 21 (by omega)
          have hf1 := M0.out.frozen 0
          have hf2 := M0.out.frozen 21
          have hy1 := HI.out.bd 0 (by omega)
          have hz1 := HI.out.bd 21 (by omega)
          obtain ⟨y, hy⟩ : ∃ y, y = h 0 := ⟨_, rfl⟩
          obtain ⟨z, hz⟩ : ∃ z, z = h 21 := ⟨_, rfl⟩
          rw [← hy] at h1 hy1
          rw [← hz] at h2 hz1
          have hm : mid h = upd (upd h 21 (z % 8)) 0 (y + 19 * (z / 8)) := by rw [hy, hz]; rfl
          have m2 := (M0.out.set 21 (z % 8)).set 0 (y + 19 * (z / 8))
          rw [← hm] at m2
          have M2 := Lib.hid m2; clear m2
          have hM1 := (M1.out.other ⟨w.heap.size, 21, none⟩ (.int .i64 (z % 8)) (by simp)).other ⟨w.heap.size, 0, none⟩ (.int .i64 (y + 19 * (z / 8))) (by simp)
          have M3 := Lib.hid hM1; clear hM1
          have hB2 := (hB.setCell (p := ⟨w.heap.size, 21, none⟩) (by simp) (.int .i64 (z % 8))).setCell (p := ⟨w.heap.size, 0, none⟩) (by simp) (.int .i64 (y + 19 * (z / 8)))
          have HB2 := Lib.hid hB2; clear hB2
          have Hy := Lib.hid hy; clear hy
          have Hz := Lib.hid hz; clear hz
          have Hm := Lib.hid hm; clear hm
          obtain ⟨hy0, hy1⟩ := hy1
          obtain ⟨hz0, hz1⟩ := hz1
          go_wp2_with fail
          go_loopw [10] (fun i wr => ∃ (j : Nat) (g : Nat → Int), j ≤ 21 ∧ i = .int .i64 j ∧ (∀ l, l < j → 0 ≤ g l ∧ g l < 4096) ∧ (∀ l, j < l → l < 22 → g l = mid h l) ∧ 0 ≤ g j ∧ g j ≤ 1048576 ∧ sumf 4096 g 22 = sumf 4096 (mid h) 22 ∧ Has wr w.heap.size (row .i64 44 g) 101 ∧ HasN wr (w.heap.size + 1) 22 40 ∧ Below w.heap.size w wr) (fun i _ => 21 - (intOf i).toNat)
          case atStart =>
            have hb := mid_bd h HI.out.bd 0 (by omega)
            exact ⟨0, mid h, by omega, rfl, fun l hl => by omega, fun _ _ _ => rfl, hb.1, by omega, rfl, M2.out, M3.out, HB2.out⟩
          case round =>
            obtain ⟨j, g, hj, rfl, hg1, hg2, hg3, hg4, hs, m0, m1, hB'⟩ := hrel
            clear M2 M3 h1 h2 hf1 hf2
            have N0 := Lib.hid m0; clear m0
            have N1 := Lib.hid m1; clear m1
            have HG1 := Lib.hid hg1; clear hg1
            have HG2 := Lib.hid hg2; clear hg2
            have HS := Lib.hid hs; clear hs
            by_cases hjl : j < 21
            · have h1 := N0.out.cell j (by omega)
              have h2 := N0.out.cell (j + 1) (by omega)
              have hf1 := N0.out.frozen j
              have hf2 := N0.out.frozen (j + 1)
              have hv1 := mid_bd h HI.out.bd (j + 1) (by omega)
              rw [← HG2.out (j + 1) (by omega) (by omega)] at hv1
              obtain ⟨u, hu⟩ : ∃ u, u = g j := ⟨_, rfl⟩
              obtain ⟨v, hv⟩ : ∃ v, v = g (j + 1) := ⟨_, rfl⟩
              rw [← hu] at h1 hg3 hg4
              rw [← hv] at h2 hv1
              have Hu := Lib.hid hu; clear hu
              have Hv := Lib.hid hv; clear hv
              obtain ⟨hv0, hv1⟩ := hv1
              have hne : (j + 1 = j) = False := by simp
              go_wp2_with fail
              go_region
              go_wp2_with fail
              go_roundw
              case measure => simp [intOf]; omega
              case rel =>
                refine ⟨j + 1, upd (upd g (j + 1) (v + u / 4096)) j (u % 4096), by omega, by go_num, ?_, ?_, ?_, ?_, ?_, (N0.out.set _ _).set _ _, (N1.out.other _ _ (by simp)).other _ _ (by simp), ((hB'.setCell (Nat.le_refl _) _).setCell (Nat.le_refl _) _).drew⟩
                · intro l hl
                  by_cases e : l = j
                  · subst e; rw [upd_same]; omega
                  · rw [upd_ne _ _ _ _ e, upd_ne _ _ _ _ (by omega)]; exact HG1.out l (by omega)
                · intro l hl hl'
                  rw [upd_ne _ _ _ _ (by omega), upd_ne _ _ _ _ (by omega)]; exact HG2.out l (by omega) hl'
                · rw [upd_ne _ _ _ _ (by omega), upd_same]; omega
                · rw [upd_ne _ _ _ _ (by omega), upd_same]; omega
                · rw [Hu.out, Hv.out, pass_sum g j hjl]; exact HS.out
            · obtain rfl : j = 21 := by omega
              have hI1 := inv4_step n k h g hlt HI.out HG1.out hg3 HS.out
              have HI1 := Lib.hid hI1; clear hI1
              clear HG1 HG2 HS hjl hj hg3 hg4
              go_wp2_with fail
              go_roundw
              case measure => simp [intOf]; omega
              case rel => exact ⟨k + 1, g, by omega, by go_num, HI1.out, N0.out, N1.out, hB'⟩
        · obtain rfl : k = 2 := by omega
          have HI4 := Lib.hid (inv4_end n h HI.out)
          clear HI hlt hk
          go_wp2_with fail
          have hlt1 := M1.out.lt
          have hne : ¬ wr.heap.size = w.heap.size := by omega
          have hne' : ¬ w.heap.size = wr.heap.size := by omega
          have N0 := Lib.hid (M0.out.alloc (.cells (row .i64 22 fun _ => 0) 40))
          have N1 := Lib.hid (M1.out.alloc (.cells (row .i64 22 fun _ => 0) 40))
          have N2 := Lib.hid (Has.new wr (row .i64 22 fun _ => 0) 40)
          have HB := Lib.hid (hB.alloc (by omega) (.cells (row .i64 22 fun _ => 0) 40))
          clear M0 M1 hB
          obtain ⟨w3, rfl⟩ : ∃ w3 : World, w3 = wr := ⟨_, rfl⟩
          go_loopw [12] (fun i wx => ∃ (j : Nat) (g : Nat → Int), j ≤ 22 ∧ i = .int .i64 j ∧ (∀ l, l < j → g l = h l) ∧ Has wx w.heap.size (row .i64 44 h) 101 ∧ HasN wx (w.heap.size + 1) 22 40 ∧ Has wx w3.heap.size (row .i64 22 g) 40 ∧ Below w.heap.size w wx) (fun i _ => 22 - (intOf i).toNat)
          case atStart => exact ⟨0, fun _ => 0, by omega, rfl, fun l hl => by omega, N0.out, N1.out, N2.out, HB.out⟩
          case round =>
            clear N0 N1 N2 HB
            obtain ⟨j, g, hj, rfl, hg, m0, m1, m2, hB⟩ := hrel
            have N0 := Lib.hid m0; clear m0
            have N1 := Lib.hid m1; clear m1
            have N2 := Lib.hid m2; clear m2
            have HG := Lib.hid hg; clear hg
            by_cases hjl : j < 22
            · have h1 := N0.out.cell j (by omega)
              have h2 := N2.out.cell j (by omega)
              have hf2 := N2.out.frozen j
              obtain ⟨u, hu⟩ : ∃ u, u = h j := ⟨_, rfl⟩
              rw [← hu] at h1
              have Hu := Lib.hid hu; clear hu
              go_wp2_with fail
              go_roundw
              case measure => simp [intOf]; omega
              case rel =>
                refine ⟨j + 1, upd g j u, by omega, by go_num, ?_, N0.out.other _ _ (by simpa using hne'), N1.out.other _ _ (by simp; omega), N2.out.set _ _, hB.setCell (by simp; omega) _⟩
                intro l hl
                by_cases e : l = j
                · subst e; rw [upd_same, Hu.out]
                · rw [upd_ne _ _ _ _ e]; exact HG.out l (by omega)
            · obtain rfl : j = 22 := by omega
              obtain ⟨m, hm, hmod, hm255⟩ := HI4.out
              rw [← row_ext _ _ _ _ HG.out] at hm
              have m2 := N2.out
              rw [hm] at m2
              have O2 := Lib.hid m2; clear m2
              have HM := Lib.hid hmod; clear hmod
              have HM2 := Lib.hid hm255; clear hm255 hm
              clear N2 HG hjl hj HI4 N0
              go_wp2_with fail
              obtain ⟨w4, rfl⟩ : ∃ w4 : World, w4 = wr := ⟨_, rfl⟩
              go_loopg [101] m (fun gk _ wx => gk % PP = n % PP ∧ gk < 57896044618658097711785492504343953926634992332820282019728792003956564819968 ∧ HasN wx (w.heap.size + 1) 22 40 ∧ Has wx w3.heap.size (r22 gk) 40 ∧ Below w.heap.size w wx)
              case atStart => exact ⟨HM.out, HM2.out, N1.out, O2.out, hB⟩
              case round =>
                clear N1 O2 HM HM2 hB
                obtain ⟨hmod, h255, n1, m2, hB⟩ := hrel
                have N1 := Lib.hid n1; clear n1
                have M2 := Lib.hid m2; clear m2
                have HM := Lib.hid hmod; clear hmod
                have H255 := Lib.hid h255; clear h255
                obtain ⟨w5, rfl⟩ : ∃ w5 : World, w5 = wr := ⟨_, rfl⟩
                have hlt5 := M2.out.lt
                have hu := Try.underlying40
                have hi : (Try.prog.info? 40).map (·.size) = some (rowl .i64 22 (dg 4096 gk)).length := by rw [rowl_len]; kernel_rfl
                have hR : w5.rangeAt w3.heap.size 0 (rowl .i64 22 (dg 4096 gk)) := M2.out.range
                have hgk : gk < 4096 ^ 22 := lt_p22 _ H255.out
                have HGK := Lib.hid hgk; clear hgk
                have HB := Lib.hid hB; clear hB
                by_cases hp : gk < PP
                · have hd : decide (gk < PP) = true := by simpa using hp
                  have hres : gk = n % PP := by rw [← HM.out, Nat.mod_eq_of_lt hp]
                  have HR := Lib.hid hres; clear hres hp
                  have Hd := Lib.hid hd; clear hd
                  go_wp2_with fail
                  go_region_held3 (fun w' => Below w5.heap.size w5 w' ∧ w'.rangeAt w3.heap.size 0 (rowl .i64 22 (dg 4096 gk)))
                    ((first | assumption | exact ⟨(Below.refl _ _).drew, hR⟩ | (have hk := held_next (‹Below w5.heap.size w5 _ ∧ _›).1 hb; exact ⟨hk, range_below hR hk hlt5⟩)))
                    ((first | (go_at_call 82; refine (prime_any _).mono ?_; rintro e w1 ⟨rfl, hb⟩) | (go_at_call 109; refine (below_any gk PP HGK.out PP_lt _).mono ?_; rintro e w1 ⟨rfl, hb⟩; rw [Hd.out])))
                  have hH := Lib.hid (‹Below w5.heap.size w5 _ ∧ _›).1
                  have P2 := Lib.hid (M2.out.below hH.out hlt5)
                  obtain ⟨Z, hZ, m1⟩ := N1.out.below hH.out N1.out.lt
                  have P1 := Lib.hid m1; clear m1
                  have HZ := Lib.hid hZ; clear hZ
                  have HBB := Lib.hid ((below_setRow (HB.out.trans (hH.out.mono HB.out.size)) (w.heap.size + 1) (r22 gk) (by omega)))
                  clear hR hu hi
                  go_wp2_with (first | (refine wpList_load_row rfl 40 _ rfl w3.heap.size rfl 40 (r22 gk) (0, 0) _ P2.out Try.underlying40 rfl (by rw [r22_size]; kernel_rfl) ?_) | (refine wpList_store_row rfl 40 _ _ rfl (w.heap.size + 1) _ rfl rfl 40 Z P1.out (by rw [r22_size]; kernel_rfl) (HZ.out.trans (r22_size _).symm) (row_one _ _ _) ?_))
                  exact bodyPost_ret (v := .agg (r22 (n % PP))) (results_cell_row (t := 40) (by rfl) _ _ (w.heap.size + 1) _ _ _ rfl ((P1.out.setRow _).trans (by rw [← HR.out])) Try.underlying40 rfl (by rw [r22_size]; kernel_rfl)) rfl ⟨rfl, HBB.out⟩
                · have hd : decide (gk < PP) = false := by simpa using hp
                  have Hp := Lib.hid (Nat.not_lt.1 hp); clear hp
                  have Hd := Lib.hid hd; clear hd
                  go_wp2_with fail
                  go_region_held3 (fun w' => Below w5.heap.size w5 w' ∧ w'.rangeAt w3.heap.size 0 (rowl .i64 22 (dg 4096 gk)))
                    ((first | exact ⟨(Below.refl _ _).drew, hR⟩ | exact (‹Below w5.heap.size w5 _ ∧ _›) | (have hk := held_next (‹Below w5.heap.size w5 _ ∧ _›).1 hb; exact ⟨hk, range_below hR hk hlt5⟩)))
                    ((first | (go_at_call 82; refine (prime_any _).mono ?_; rintro e w1 ⟨rfl, hb⟩) | (go_at_call 109; refine (below_any gk PP HGK.out PP_lt _).mono ?_; rintro e w1 ⟨rfl, hb⟩; rw [Hd.out])))
                  have hH := Lib.hid (‹Below w5.heap.size w5 _ ∧ _›).1
                  obtain ⟨w6, rfl⟩ : ∃ w6 : World, w6 = w1 := ⟨_, rfl⟩
                  have P2 := Lib.hid (M2.out.below hH.out hlt5)
                  have P1 := Lib.hid (N1.out.below hH.out N1.out.lt)
                  have HBB := Lib.hid (HB.out.trans (hH.out.mono HB.out.size))
                  clear hR
                  obtain ⟨gd, hgd⟩ : ∃ d, d = gk - PP := ⟨_, rfl⟩
                  have hl := fun w => less_any gk PP Hp.out HGK.out w
                  rw [← hgd] at hl
                  have HL := Lib.hid hl; clear hl
                  have He := Lib.hid hgd; clear hgd
                  have hlt6 := P2.out.lt
                  obtain ⟨gd, hgd⟩ : ∃ d, d = gk - PP := ⟨_, rfl⟩
                  have hl := fun w => less_any gk PP Hp.out HGK.out w
                  rw [← hgd] at hl
                  have HL := Lib.hid hl; clear hl
                  have He := Lib.hid hgd; clear hgd
                  clear hi hu
                  go_wp2_with fail
                  refine wp_region_noPanic ?_
                  refine wp_region_but 3 (fun w' => Below w6.heap.size w6 w' ∧ Has w' w3.heap.size (r22 gk) 40) (by kernel_rfl) ?_
                  refine wpBut_take (i := 0) rfl (by kernel_rfl) (by kernel_rfl) (by kernel_rfl) (by kernel_rfl) (by kernel_rfl) (fun _ _ _ h => h) (yieldsIf_load_row (by rfl) 40 _ rfl w3.heap.size rfl 40 (r22 gk) (fun w h => h.2) Try.underlying40 rfl (by rw [r22_size]; kernel_rfl)) ⟨(Below.refl _ _).drew, P2.out⟩ ?_
                  simp only [Act.put, List.setIfInBounds_toArray]
                  refine wpBut_one (i := 1) (by kernel_rfl) rfl (fun K hK => ?_)
                  go_simp
                  go_at_call 82
                  refine (prime_any _).mono ?_
                  rintro e w7 ⟨rfl, hb⟩
                  refine hK.out _ _ (fun _ => ⟨held_next (Below.refl _ _).drew hb, P2.out.below (held_next (Below.refl _ _).drew hb) hlt6⟩) ?_
                  have hk7 := held_next (w4 := w6) (Below.refl _ _).drew hb
                  clear hK K hb
                  refine wpBut_one (i := 2) (by kernel_rfl) rfl (fun K hK => ?_)
                  go_simp
                  go_at_call 81
                  refine (HL.out _).mono ?_
                  rintro e w8 ⟨rfl, hb⟩
                  have hk8 := held_next hk7 hb
                  refine hK.out _ _ (fun _ => ⟨hk8, P2.out.below hk8 hlt6⟩) ?_
                  clear hK K hb hk7
                  refine wpBut_one (i := 3) (by kernel_rfl) rfl (fun K hK => ?_)
                  rw [if_pos (by rfl)]
                  refine wp_store_row 40 _ _ rfl w3.heap.size _ rfl rfl 40 (r22 gk) (P2.out.below hk8 hlt6) (by rw [r22_size]; kernel_rfl) ((r22_size _).trans (r22_size _).symm) (row_one _ _ _) ?_
                  refine hK.out _ _ (fun h => (h rfl).elim) ?_
                  clear hK K
                  simp only [Act.put, List.setIfInBounds_toArray]
                  refine wpBut_done (by kernel_rfl) (NoPanic.normal ?_)
                  go_wp2_with fail
                  go_roundg gd
                  case measure => rw [He.out]; exact Nat.sub_lt (Nat.lt_of_lt_of_le PP_pos Hp.out) PP_pos
                  case rel =>
                    refine ⟨?_, ?_, (P1.out.below hk8 P1.out.lt).setRow_other _ _ (by omega), (P2.out.below hk8 hlt6).setRow _, below_setRow (HBB.out.trans (hk8.mono HBB.out.size)) _ _ (by omega)⟩
                    · rw [He.out, ← HM.out]; exact (Nat.mod_eq_sub_mod Hp.out).symm
                    · rw [He.out]; exact Nat.lt_of_le_of_lt (Nat.sub_le _ _) H255.out
end Go.Proofs.Ytjiagjonlcadiaa
