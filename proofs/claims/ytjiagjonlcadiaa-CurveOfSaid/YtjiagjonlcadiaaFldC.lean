/- The program's field: Minus. -/
import Derived.Test.YtjiagjonlcadiaaFldB
namespace Go.Proofs.Ytjiagjonlcadiaa
open Go.RowKit Go.Lib

theorem bor_sum (x y c : Int) (hx : 0 ≤ x) (hx' : x < 18446744073709551616) (hy : 0 ≤ y) (hy' : y < 18446744073709551616) (hc : 0 ≤ c) (hc' : c ≤ 1) :
    ∃ s d : Int, (x - y - c) % 18446744073709551616 = s ∧ bor x (y + c) = d ∧ 0 ≤ s ∧ s < 18446744073709551616 ∧ 0 ≤ d ∧ d ≤ 1 ∧ x - y - c = s - 18446744073709551616 * d := by
  refine ⟨_, _, rfl, rfl, by omega, by omega, (bor_01 _ _).1, (bor_01 _ _).2, ?_⟩
  unfold bor
  split <;> omega
/-- how many rounds are to come -/
def rounds (c A : Nat) : Nat := if c = 0 then 0 else if A < 38 then 2 else 1
theorem rounds_down (A A' d : Nat) (hd : d ≤ 1) (h : A' + 38 = A + d * 115792089237316195423570985008687907853269984665640564039457584007913129639936) (hA' : A' < 115792089237316195423570985008687907853269984665640564039457584007913129639936) : rounds d A' < rounds 1 A := by
  unfold rounds
  rw [if_neg (show ¬ (1 = 0) by decide)]
  by_cases h0 : d = 0
  · rw [if_pos h0]; split <;> omega
  · rw [if_neg h0, if_neg (by omega), if_pos (by omega)]; omega
/-- what is left, as a residue: A less c times 2^256, modulo the prime -/
theorem minus_mod (A A' d : Nat) (h : A' + 38 = A + d * 115792089237316195423570985008687907853269984665640564039457584007913129639936) : ((A' : Int) - d * 115792089237316195423570985008687907853269984665640564039457584007913129639936) % (PP : Int) = ((A : Int) - 1 * 115792089237316195423570985008687907853269984665640564039457584007913129639936) % (PP : Int) := by
  have e : (115792089237316195423570985008687907853269984665640564039457584007913129639936 : Int) = 38 + 2 * (PP : Int) := by decide +kernel
  have e2 : (A' : Int) - d * 115792089237316195423570985008687907853269984665640564039457584007913129639936 = ((A : Int) - 1 * 115792089237316195423570985008687907853269984665640564039457584007913129639936) + (PP : Int) * 2 := by omega
  rw [e2, Int.add_mul_emod_self_left]
theorem minus_res (a b : Nat) : (((a : Int) - b) % (PP : Int)).toNat = (a % PP + (PP - b % PP)) % PP := by
  have hp := PP_pos
  have hb := Nat.mod_lt b hp
  have e1 := Nat.div_add_mod a PP
  have e2 := Nat.div_add_mod b PP
  generalize a % PP = x at *
  generalize b % PP = y at *
  generalize a / PP = qa at *
  generalize b / PP = qb at *
  have : (a : Int) - b = ((x + (PP - y) : Nat) : Int) + (PP : Int) * ((qa : Int) - qb - 1) := by
    rw [← e1, ← e2, Int.natCast_add, Int.natCast_add, Int.natCast_add, Int.natCast_mul, Int.natCast_mul, Int.natCast_sub (by omega), Int.mul_sub, Int.mul_sub]
    omega
  rw [this, Int.add_mul_emod_self_left, ← Int.natCast_emod, Int.toNat_natCast]

set_option maxRecDepth 100000 in
set_option maxHeartbeats 4000000 in
theorem minus_any (a b : Nat) (ha : a < 115792089237316195423570985008687907853269984665640564039457584007913129639936) (hb : b < 115792089237316195423570985008687907853269984665640564039457584007913129639936) (w : World) :
    Calls Try.prog 39 #[.agg (e4 a), .agg (e4 b)] w (ElP ((a % PP + (PP - b % PP)) % PP) w) := by
  rw [← minus_res]
  obtain ⟨r, hr⟩ : ∃ r, r = ((a : Int) - b) % (PP : Int) := ⟨_, rfl⟩
  rw [← hr]
  have Ha := Lib.hid ha; clear ha
  have Hb := Lib.hid hb; clear hb
  have Hr := Lib.hid hr; clear hr
  go_enter Try.func39, Try.ntmps39
  go_wp2_with fail
  go_loopw [5, 9] (fun s i wr => ∃ (k : Nat) (h : Nat → Int) (c : Int), k ≤ 4 ∧ i = .int .i64 k ∧ s = .int .u64 c ∧ 0 ≤ c ∧ c ≤ 1 ∧ (∀ j, j < k → 0 ≤ h j ∧ h j < 18446744073709551616) ∧ (∀ j, k ≤ j → h j = dg 18446744073709551616 a j) ∧ sumf 18446744073709551616 h k = sumf 18446744073709551616 (dg 18446744073709551616 a) k - sumf 18446744073709551616 (dg 18446744073709551616 b) k + c * 18446744073709551616 ^ k ∧ Has wr w.heap.size (row .u64 4 h) 36 ∧ Has wr (w.heap.size + 1) (e4 b) 36 ∧ HasN wr (w.heap.size + 1 + 1) 4 36 ∧ Below w.heap.size w wr) (fun _ i _ => 4 - (intOf i).toNat)
  case atStart => exact ⟨0, dg 18446744073709551616 a, 0, by omega, rfl, rfl, by omega, by omega, fun j hj => by omega, fun _ _ => rfl, by simp [sumf], ((Has.new _ _ _).alloc _).alloc _, (Has.new1 _ _ _ _).alloc _, HasN.new2 _ _ _ _ _ 4 rfl, below_3 _ _ _ _⟩
  case round =>
    obtain ⟨k, h, c, hk, rfl, rfl, c0, c1, hd, hg, hs, m0, m1, m2, hB⟩ := hrel
    have M0 := Lib.hid m0; clear m0
    have M1 := Lib.hid m1; clear m1
    have M2 := Lib.hid m2; clear m2
    have Hd := Lib.hid hd; clear hd
    have Hg := Lib.hid hg; clear hg
    have Hs := Lib.hid hs; clear hs
    by_cases hlt : k < 4
    · have h1 := M0.out.cell k hlt
      have h2 := M1.out.cell k hlt
      have hfz := M0.out.frozen k
      have x0 := w_nn a k
      have x1 := w_lt a k
      have y0 := w_nn b k
      have y1 := w_lt b k
      rw [Hg.out k (Nat.le_refl _)] at h1
      obtain ⟨x, hx⟩ : ∃ x, x = dg 18446744073709551616 a k := ⟨_, rfl⟩
      obtain ⟨y, hy⟩ : ∃ y, y = dg 18446744073709551616 b k := ⟨_, rfl⟩
      rw [← hx] at h1 x0 x1
      rw [← hy] at h2 y0 y1
      have ka := fun w => sub64 x y c x0 y0 y1 c0 c1 w
      obtain ⟨s, d, hss, hdd, s0, s1, d0, d1, hsum⟩ := bor_sum x y c x0 x1 y0 y1 c0 c1
      rw [hss, hdd] at ka
      have Hx := Lib.hid hx; clear hx
      have Hy := Lib.hid hy; clear hy
      have Hsum := Lib.hid hsum; clear hsum
      clear hss hdd
      go_wp2_with fail
      go_region
      go_wp2_with fail
      go_roundw
      case measure => simp [intOf]; omega
      case rel =>
        refine ⟨k + 1, upd h k s, d, by omega, by go_num, rfl, d0, d1, ?_, ?_, ?_, M0.out.set _ _, M1.out.other _ _ (by simp <;> omega), M2.out.other _ _ (by simp <;> omega), by first | exact hB.setCell (Nat.le_refl _) _ | exact (hB.setCell (Nat.le_refl _) _).drew⟩
        · intro j hj
          by_cases e : j = k
          · subst e; rw [upd_same]; exact ⟨s0, s1⟩
          · rw [upd_ne _ _ _ _ e]; exact Hd.out j (by omega)
        · intro j hj; rw [upd_ne _ _ _ _ (by omega)]; exact Hg.out j (by omega)
        · simp only [sumf]
          rw [sumf_upd_above _ _ _ _ _ (Nat.le_refl _), upd_same, ← Hx.out, ← Hy.out, Int.pow_succ]
          exact sub_step _ _ _ _ _ _ _ _ _ Hs.out Hsum.out
    · obtain rfl : k = 4 := by omega
      obtain ⟨A', hA', hrow, hsum⟩ := e4_of h Hd.out
      have hs4 := Hs.out
      rw [hsum, sum4 a Ha.out, sum4 b Hb.out, p64_4] at hs4
      have m0 := M0.out
      rw [hrow] at m0
      obtain ⟨o', rfl⟩ := Int.eq_ofNat_of_zero_le c0
      have hres : ((A' : Int) - o' * 115792089237316195423570985008687907853269984665640564039457584007913129639936) % (PP : Int) = r := by rw [Hr.out]; congr 1; omega
      have M1' := Lib.hid ((M1.out.toN (e4_size _)))
      have M0 := Lib.hid m0; clear m0
      have Hres := Lib.hid hres; clear hres
      have HA' := Lib.hid hA'; clear hA'
      clear hrow hsum hs4 Ha Hb Hr M1
      go_wp2_with fail
      obtain ⟨w2, rfl⟩ : ∃ w2 : World, w2 = wr := ⟨_, rfl⟩
      go_loopg [5] (rounds o' A') (fun gk s wr => ∃ A c : Nat, gk = rounds c A ∧ A < 115792089237316195423570985008687907853269984665640564039457584007913129639936 ∧ c ≤ 1 ∧ s = .int .u64 c ∧ ((A : Int) - c * 115792089237316195423570985008687907853269984665640564039457584007913129639936) % (PP : Int) = r ∧ Has wr w.heap.size (e4 A) 36 ∧ HasN wr (w.heap.size + 1 + 1) 4 36 ∧ Below w.heap.size w wr)
      case atStart => exact ⟨A', o', rfl, HA'.out, by omega, rfl, Hres.out, M0.out, M2.out, hB⟩
      case round =>
        clear M0 M2 hB Hres HA' M1'
        obtain ⟨A, c, hgk, hA, hc, rfl, hres, m0, m2, hB⟩ := hrel
        have M0 := Lib.hid m0; clear m0
        have M2 := Lib.hid m2; clear m2
        have Hgk := Lib.hid hgk; clear hgk
        have Hres := Lib.hid hres; clear hres
        have HA := Lib.hid hA; clear hA
        by_cases hz : 0 < c
        · obtain rfl : c = 1 := by omega
          have h1 := M0.out.cell 0 (by omega)
          have hfz := M0.out.frozen 0
          have x0 := w_nn A 0
          have x1 := w_lt A 0
          obtain ⟨x, hx⟩ : ∃ x, x = dg 18446744073709551616 A 0 := ⟨_, rfl⟩
          rw [← hx] at h1 x0 x1
          have ka := fun w => sub64_0 x 38 x0 (by omega) (by omega) w
          obtain ⟨s, d, hss, hdd, s0, s1, d0, d1, hsum⟩ := bor_sum x 38 0 x0 x1 (by omega) (by omega) (by omega) (by omega)
          rw [Int.sub_zero] at hss
          rw [Int.add_zero] at hdd
          rw [hss, hdd] at ka
          have m0' := M0.out.set 0 s
          have m2' := M2.out.other ⟨w.heap.size, 0, none⟩ (.int .u64 s) (by simp <;> omega)
          have hB' := hB.setCell (p := ⟨w.heap.size, 0, none⟩) (Nat.le_refl _) (.int .u64 s)
          have Hx := Lib.hid hx; clear hx
          have Hsum := Lib.hid hsum; clear hsum
          have M0' := Lib.hid m0'; clear m0'
          have M2' := Lib.hid m2'; clear m2'
          have HB' := Lib.hid hB'; clear hB'
          clear hss hdd
          go_wp2_with fail
          clear M0 M2 hB
          obtain ⟨w3, rfl⟩ : ∃ w3 : World, w3 = wr := ⟨_, rfl⟩
          go_loopw [7, 8] (fun u i wr => ∃ (k : Nat) (h : Nat → Int) (dd : Int), 1 ≤ k ∧ k ≤ 4 ∧ i = .int .i64 k ∧ u = .int .u64 dd ∧ 0 ≤ dd ∧ dd ≤ 1 ∧ (∀ j, j < k → 0 ≤ h j ∧ h j < 18446744073709551616) ∧ (∀ j, k ≤ j → h j = dg 18446744073709551616 A j) ∧ sumf 18446744073709551616 h k = sumf 18446744073709551616 (dg 18446744073709551616 A) k - 38 + dd * 18446744073709551616 ^ k ∧ Has wr w.heap.size (row .u64 4 h) 36 ∧ HasN wr (w.heap.size + 1 + 1) 4 36 ∧ Below w.heap.size w wr) (fun _ i _ => 4 - (intOf i).toNat)
          case atStart =>
            refine ⟨1, upd (dg 18446744073709551616 A) 0 s, d, by omega, by omega, rfl, rfl, d0, d1, ?_, ?_, ?_, M0'.out, M2'.out, HB'.out⟩
            · intro j hj
              obtain rfl : j = 0 := by omega
              rw [upd_same]; exact ⟨s0, s1⟩
            · intro j hj; rw [upd_ne _ _ _ _ (by omega)]
            · have := Hsum.out
              simp only [sumf, upd_same, Int.pow_zero, Int.mul_one, Int.zero_add, Int.pow_one]
              rw [← Hx.out]; omega
          case round =>
            clear M0' M2' HB'
            obtain ⟨k, h, dd, hk1, hk, rfl, rfl, dd0, dd1, hd, hg, hs, m0, m2, hB⟩ := hrel
            have M0 := Lib.hid m0; clear m0
            have M2 := Lib.hid m2; clear m2
            have Hd := Lib.hid hd; clear hd
            have Hg := Lib.hid hg; clear hg
            have Hs := Lib.hid hs; clear hs
            by_cases hlt : k < 4
            · have h1 := M0.out.cell k hlt
              have hfz := M0.out.frozen k
              have y0 := w_nn A k
              have y1 := w_lt A k
              rw [Hg.out k (Nat.le_refl _)] at h1
              obtain ⟨y, hy⟩ : ∃ y, y = dg 18446744073709551616 A k := ⟨_, rfl⟩
              rw [← hy] at h1 y0 y1
              have kb := fun w => sub64 y 0 dd y0 (by omega) (by omega) dd0 dd1 w
              obtain ⟨s', d', hss, hdd, s0', s1', d0', d1', hsum'⟩ := bor_sum y 0 dd y0 y1 (by omega) (by omega) dd0 dd1
              rw [hss, hdd] at kb
              have Hy := Lib.hid hy; clear hy
              have Hsum' := Lib.hid hsum'; clear hsum'
              clear hss hdd ka
              go_wp2_with fail
              go_roundw
              case measure => simp [intOf]; omega
              case rel =>
                refine ⟨k + 1, upd h k s', d', by omega, by omega, by go_num, rfl, d0', d1', ?_, ?_, ?_, M0.out.set _ _, M2.out.other _ _ (by simp <;> omega), by first | exact hB.setCell (Nat.le_refl _) _ | exact (hB.setCell (Nat.le_refl _) _).drew⟩
                · intro j hj
                  by_cases e : j = k
                  · subst e; rw [upd_same]; exact ⟨s0', s1'⟩
                  · rw [upd_ne _ _ _ _ e]; exact Hd.out j (by omega)
                · intro j hj; rw [upd_ne _ _ _ _ (by omega)]; exact Hg.out j (by omega)
                · have := sub_step _ _ _ 38 _ 0 _ _ _ Hs.out Hsum'.out
                  simp only [sumf]
                  rw [sumf_upd_above _ _ _ _ _ (Nat.le_refl _), upd_same, ← Hy.out, Int.pow_succ, this]
                  omega
            · obtain rfl : k = 4 := by omega
              obtain ⟨A2, hA2, hrow, hsum2⟩ := e4_of h Hd.out
              have hs4 := Hs.out
              rw [hsum2, sum4 A HA.out, p64_4] at hs4
              have m0 := M0.out
              rw [hrow] at m0
              obtain ⟨o2, rfl⟩ := Int.eq_ofNat_of_zero_le dd0
              have hnum : A2 + 38 = A + o2 * 115792089237316195423570985008687907853269984665640564039457584007913129639936 := by omega
              have hres2 : ((A2 : Int) - o2 * 115792089237316195423570985008687907853269984665640564039457584007913129639936) % (PP : Int) = r := by rw [minus_mod A A2 o2 hnum]; exact Hres.out
              have hms : rounds o2 A2 < gk := by rw [Hgk.out]; exact rounds_down A A2 o2 (by omega) hnum hA2
              have M0 := Lib.hid m0; clear m0
              have Hres2 := Lib.hid hres2; clear hres2
              have HA2 := Lib.hid hA2; clear hA2
              have Hms := Lib.hid hms; clear hms
              clear hrow hsum2 hs4 ka hnum
              go_wp2_with fail
              go_roundg (rounds o2 A2)
              case measure => exact Hms.out
              case rel => exact ⟨A2, o2, rfl, HA2.out, by omega, rfl, Hres2.out, M0.out, M2.out, hB⟩
        · obtain rfl : c = 0 := by omega
          obtain ⟨Z, hZ, mz⟩ := M2.out
          have hfin : A % PP = r.toNat := by
            have := Hres.out
            rw [← this]
            have e : ((A : Int) - ((0 : Nat) : Int) * 115792089237316195423570985008687907853269984665640564039457584007913129639936) = (A : Int) := by omega
            rw [e, ← Int.natCast_emod, Int.toNat_natCast]
          have HBB := Lib.hid (below_setRow hB (w.heap.size + 1 + 1) (e4 A) (by omega))
          have Mz := Lib.hid mz; clear mz
          have HZ := Lib.hid hZ; clear hZ
          have Hfin := Lib.hid hfin; clear hfin
          clear Hgk Hres
          go_wp2_with (first | (refine wpList_load_row rfl 36 _ rfl (w.heap.size) rfl 36 (e4 A) (0, 0) _ M0.out Try.underlying36 rfl (by rw [e4_size]; kernel_rfl) ?_) | (refine wpList_store_row rfl 36 _ _ rfl (w.heap.size + 1 + 1) _ rfl rfl 36 Z Mz.out (by rw [e4_size]; kernel_rfl) (HZ.out.trans (e4_size _).symm) (row_one _ _ _) ?_))
          exact bodyPost_ret (v := .agg (e4 A)) (results_cell_row (t := 36) (by rfl) _ _ (w.heap.size + 1 + 1) _ _ _ rfl (Mz.out.setRow _) Try.underlying36 rfl (by rw [e4_size]; kernel_rfl)) rfl ⟨A, HA.out, Hfin.out, rfl, HBB.out⟩
end Go.Proofs.Ytjiagjonlcadiaa
