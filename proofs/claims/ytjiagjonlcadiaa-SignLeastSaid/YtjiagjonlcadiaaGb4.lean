/- For every seed the law SignPublic returns true; no condition. -/
import Derived.BigRegion
import Derived.LoopN
import Derived.Laws.Bits64b
import Derived.Test.YtjiagjonlcadiaaGb3
set_option maxRecDepth 100000
set_option maxHeartbeats 16000000
set_option linter.unusedVariables false
set_option linter.unusedSimpArgs false
namespace Go.Proofs.Ytjiagjonlcadiaa
section
open Go.RowKit Go.Lib
theorem bor_sum (x y c : Int) (hx : 0 ≤ x) (hx' : x < 18446744073709551616) (hy : 0 ≤ y) (hy' : y < 18446744073709551616) (hc : 0 ≤ c) (hc' : c ≤ 1) :
 ∃ s d : Int, (x - y - c) % 18446744073709551616 = s ∧ bor x (y + c) = d ∧ 0 ≤ s ∧ s < 18446744073709551616 ∧ 0 ≤ d ∧ d ≤ 1 ∧ x - y - c = s - 18446744073709551616 * d := by
 refine ⟨_, _, rfl, rfl, by omega, by omega, (bor_01 _ _).1, (bor_01 _ _).2, ?_⟩
 unfold bor
 split <;> omega
def qa9 (c A : Nat) : Nat := if c = 0 then 0 else if A < 38 then 2 else 1
theorem rounds_down (A A' d : Nat) (hd : d ≤ 1) (h : A' + 38 = A + d * 115792089237316195423570985008687907853269984665640564039457584007913129639936) (hA' : A' < 115792089237316195423570985008687907853269984665640564039457584007913129639936) : qa9 d A' < qa9 1 A := by
 unfold qa9
 rw [if_neg (show ¬ (1 = 0) by decide)]
 by_cases h0 : d = 0
 · rw [if_pos h0]; split <;> omega
 · rw [if_neg h0, if_neg (by omega), if_pos (by omega)]; omega
theorem minus_mod (A A' d : Nat) (h : A' + 38 = A + d * 115792089237316195423570985008687907853269984665640564039457584007913129639936) : ((A' : Int) - d * 115792089237316195423570985008687907853269984665640564039457584007913129639936) % (PP : Int) = ((A : Int) - 1 * 115792089237316195423570985008687907853269984665640564039457584007913129639936) % (PP : Int) := by
 have e : (115792089237316195423570985008687907853269984665640564039457584007913129639936 : Int) = 38 + 2 * (PP : Int) := by decide +kernel
 have e2 : (A' : Int) - d * 115792089237316195423570985008687907853269984665640564039457584007913129639936 = ((A : Int) - 1 * 115792089237316195423570985008687907853269984665640564039457584007913129639936) + (PP : Int) * 2 := by omega
 rw [e2, Int.add_mul_emod_self_left]
theorem minus_res (a b : Nat) : (((a : Int) - b) % (PP : Int)).toNat = (a % PP + (PP - b % PP)) % PP := by
 have hp := qH
 have hb := Nat.mod_lt b hp
 have e1 := Nat.div_add_mod a PP
 have e2 := Nat.div_add_mod b PP
 generalize a % PP = x at *
 generalize b % PP = y at *
 generalize a / PP = qa at *
 generalize b / PP = qb at *
 have : (a : Int) - b = ((x + (PP - y) : Nat) : Int) + (PP : Int) * ((qa : Int) - qb - 1) := by
  rw [← e1, ← e2, Int.natCast_add, Int.natCast_add, Int.natCast_add, Int.natCast_mul, Int.natCast_mul, Int.natCast_sub (by omega), Int.mul_sub, Int.mul_sub]
  omega
 rw [this, Int.add_mul_emod_self_left, ← Int.natCast_emod, Int.toNat_natCast]
theorem zE (a b : Nat) (ha : a < 115792089237316195423570985008687907853269984665640564039457584007913129639936) (hb : b < 115792089237316195423570985008687907853269984665640564039457584007913129639936) (w : World) :
 Calls Try.prog 39 #[.agg (e4 a), .agg (e4 b)] w (ElP ((a % PP + (PP - b % PP)) % PP) w) := by
 rw [← minus_res]
 obtain ⟨r, hr⟩ : ∃ r, r = ((a : Int) - b) % (PP : Int) := ⟨_, rfl⟩
 rw [← hr]
 have Ha := Lib.hid ha; clear ha
 have Hb := Lib.hid hb; clear hb
 have Hr := Lib.hid hr; clear hr
 go_enter Try.func39, Try.ntmps39
 go_wp2_with fail
 go_loopw [5, 9] (fun s i wr => ∃ (k : Nat) (h : Nat → Int) (c : Int), k ≤ 4 ∧ i = .int .i64 k ∧ s = .int .u64 c ∧ 0 ≤ c ∧ c ≤ 1 ∧ (∀ j, j < k → 0 ≤ h j ∧ h j < 18446744073709551616) ∧ (∀ j, k ≤ j → h j = dg 18446744073709551616 a j) ∧ qr 18446744073709551616 h k = qr 18446744073709551616 (dg 18446744073709551616 a) k - qr 18446744073709551616 (dg 18446744073709551616 b) k + c * 18446744073709551616 ^ k ∧ Has wr w.heap.size (row .u64 4 h) 36 ∧ Has wr (w.heap.size + 1) (e4 b) 36 ∧ HasN wr (w.heap.size + 1 + 1) 4 36 ∧ Below w.heap.size w wr) (fun _ i _ => 4 - (intOf i).toNat)
 case atStart => exact ⟨0, dg 18446744073709551616 a, 0, by omega, rfl, rfl, by omega, by omega, fun j hj => by omega, fun _ _ => rfl, by simp [qr], ((Has.new _ _ _).alloc _).alloc _, (Has.new1 _ _ _ _).alloc _, HasN.new2 _ _ _ _ _ 4 rfl, QD _ _ _ _⟩
 case round =>
  obtain ⟨k, h, c, hk, rfl, rfl, c0, c1, hd, hg, hs, m0, m1, m2, hB⟩ := hrel
  have M0 := Lib.hid m0; clear m0
  have M1 := Lib.hid m1; clear m1
  have M2 := Lib.hid m2; clear m2
  have Hd := Lib.hid hd; clear hd
  have Hg := Lib.hid hg; clear hg
  have Hs := Lib.hid hs; clear hs
  by_cases hlt : k < 4
  · have h1 := M0.out.cell k hlt
    have h2 := M1.out.cell k hlt
    have hfz := M0.out.frozen k
    have x0 := qbL a k
    have x1 := qbh a k
    have y0 := qbL b k
    have y1 := qbh b k
    rw [Hg.out k (Nat.le_refl _)] at h1
    obtain ⟨x, hx⟩ : ∃ x, x = dg 18446744073709551616 a k := ⟨_, rfl⟩
    obtain ⟨y, hy⟩ : ∃ y, y = dg 18446744073709551616 b k := ⟨_, rfl⟩
    rw [← hx] at h1 x0 x1
    rw [← hy] at h2 y0 y1
    have ka := fun w => sub64 x y c x0 y0 y1 c0 c1 w
    obtain ⟨s, d, hss, hdd, s0, s1, d0, d1, hsum⟩ := bor_sum x y c x0 x1 y0 y1 c0 c1
    rw [hss, hdd] at ka
    have Hx := Lib.hid hx; clear hx
    have Hy := Lib.hid hy; clear hy
    have Hsum := Lib.hid hsum; clear hsum
    clear hss hdd
    go_wp2_with fail
    go_region
    go_wp2_with fail
    go_roundw
    case measure => simp [intOf]; omega
    case rel =>
     refine ⟨k + 1, upd h k s, d, by omega, by go_num, rfl, d0, d1, ?_, ?_, ?_, M0.out.set _ _, M1.out.other _ _ (by simp <;> omega), M2.out.other _ _ (by simp <;> omega), by first | exact hB.setCell (Nat.le_refl _) _ | exact (hB.setCell (Nat.le_refl _) _).drew⟩
     · intro j hj
       by_cases e : j = k
       · subst e; rw [qw]; exact ⟨s0, s1⟩
       · rw [qD _ _ _ _ e]; exact Hd.out j (by omega)
     · intro j hj; rw [qD _ _ _ _ (by omega)]; exact Hg.out j (by omega)
     · simp only [qr]
       rw [qU _ _ _ _ _ (Nat.le_refl _), qw, ← Hx.out, ← Hy.out, Int.pow_succ]
       exact sub_step _ _ _ _ _ _ _ _ _ Hs.out Hsum.out
  · obtain rfl : k = 4 := by omega
    obtain ⟨A', hA', hrow, hsum⟩ := qcb h Hd.out
    have hs4 := Hs.out
    rw [hsum, qcC a Ha.out, qcC b Hb.out, qb8] at hs4
    have m0 := M0.out
    rw [hrow] at m0
    obtain ⟨o', rfl⟩ := Int.eq_ofNat_of_zero_le c0
    have hres : ((A' : Int) - o' * 115792089237316195423570985008687907853269984665640564039457584007913129639936) % (PP : Int) = r := by rw [Hr.out]; congr 1; omega
    have M1' := Lib.hid ((M1.out.toN (qd _)))
    have M0 := Lib.hid m0; clear m0
    have Hres := Lib.hid hres; clear hres
    have HA' := Lib.hid hA'; clear hA'
    clear hrow hsum hs4 Ha Hb Hr M1
    go_wp2_with fail
    obtain ⟨w2, rfl⟩ : ∃ w2 : World, w2 = wr := ⟨_, rfl⟩
    go_loopg [5] (qa9 o' A') (fun gk s wr => ∃ A c : Nat, gk = qa9 c A ∧ A < 115792089237316195423570985008687907853269984665640564039457584007913129639936 ∧ c ≤ 1 ∧ s = .int .u64 c ∧ ((A : Int) - c * 115792089237316195423570985008687907853269984665640564039457584007913129639936) % (PP : Int) = r ∧ Has wr w.heap.size (e4 A) 36 ∧ HasN wr (w.heap.size + 1 + 1) 4 36 ∧ Below w.heap.size w wr)
    case atStart => exact ⟨A', o', rfl, HA'.out, by omega, rfl, Hres.out, M0.out, M2.out, hB⟩
    case round =>
     clear M0 M2 hB Hres HA' M1'
     obtain ⟨A, c, hgk, hA, hc, rfl, hres, m0, m2, hB⟩ := hrel
     have M0 := Lib.hid m0; clear m0
     have M2 := Lib.hid m2; clear m2
     have Hgk := Lib.hid hgk; clear hgk
     have Hres := Lib.hid hres; clear hres
     have HA := Lib.hid hA; clear hA
     by_cases hz : 0 < c
     · obtain rfl : c = 1 := by omega
       have h1 := M0.out.cell 0 (by omega)
       have hfz := M0.out.frozen 0
       have x0 := qbL A 0
       have x1 := qbh A 0
       obtain ⟨x, hx⟩ : ∃ x, x = dg 18446744073709551616 A 0 := ⟨_, rfl⟩
       rw [← hx] at h1 x0 x1
       have ka := fun w => sub64_0 x 38 x0 (by omega) (by omega) w
       obtain ⟨s, d, hss, hdd, s0, s1, d0, d1, hsum⟩ := bor_sum x 38 0 x0 x1 (by omega) (by omega) (by omega) (by omega)
       rw [Int.sub_zero] at hss
       rw [Int.add_zero] at hdd
       rw [hss, hdd] at ka
       have m0' := M0.out.set 0 s
       have m2' := M2.out.other ⟨w.heap.size, 0, none⟩ (.int .u64 s) (by simp <;> omega)
       have hB' := hB.setCell (p := ⟨w.heap.size, 0, none⟩) (Nat.le_refl _) (.int .u64 s)
       have Hx := Lib.hid hx; clear hx
       have Hsum := Lib.hid hsum; clear hsum
       have M0' := Lib.hid m0'; clear m0'
       have M2' := Lib.hid m2'; clear m2'
       have HB' := Lib.hid hB'; clear hB'
       clear hss hdd
       go_wp2_with fail
       clear M0 M2 hB
       obtain ⟨w3, rfl⟩ : ∃ w3 : World, w3 = wr := ⟨_, rfl⟩
       go_loopw [7, 8] (fun u i wr => ∃ (k : Nat) (h : Nat → Int) (dd : Int), 1 ≤ k ∧ k ≤ 4 ∧ i = .int .i64 k ∧ u = .int .u64 dd ∧ 0 ≤ dd ∧ dd ≤ 1 ∧ (∀ j, j < k → 0 ≤ h j ∧ h j < 18446744073709551616) ∧ (∀ j, k ≤ j → h j = dg 18446744073709551616 A j) ∧ qr 18446744073709551616 h k = qr 18446744073709551616 (dg 18446744073709551616 A) k - 38 + dd * 18446744073709551616 ^ k ∧ Has wr w.heap.size (row .u64 4 h) 36 ∧ HasN wr (w.heap.size + 1 + 1) 4 36 ∧ Below w.heap.size w wr) (fun _ i _ => 4 - (intOf i).toNat)
       case atStart =>
        refine ⟨1, upd (dg 18446744073709551616 A) 0 s, d, by omega, by omega, rfl, rfl, d0, d1, ?_, ?_, ?_, M0'.out, M2'.out, HB'.out⟩
        · intro j hj
          obtain rfl : j = 0 := by omega
          rw [qw]; exact ⟨s0, s1⟩
        · intro j hj; rw [qD _ _ _ _ (by omega)]
        · have := Hsum.out
          simp only [qr, qw, Int.pow_zero, Int.mul_one, Int.zero_add, Int.pow_one]
          rw [← Hx.out]; omega
       case round =>
        clear M0' M2' HB'
        obtain ⟨k, h, dd, hk1, hk, rfl, rfl, dd0, dd1, hd, hg, hs, m0, m2, hB⟩ := hrel
        have M0 := Lib.hid m0; clear m0
        have M2 := Lib.hid m2; clear m2
        have Hd := Lib.hid hd; clear hd
        have Hg := Lib.hid hg; clear hg
        have Hs := Lib.hid hs; clear hs
        by_cases hlt : k < 4
        · have h1 := M0.out.cell k hlt
          have hfz := M0.out.frozen k
          have y0 := qbL A k
          have y1 := qbh A k
          rw [Hg.out k (Nat.le_refl _)] at h1
          obtain ⟨y, hy⟩ : ∃ y, y = dg 18446744073709551616 A k := ⟨_, rfl⟩
          rw [← hy] at h1 y0 y1
          have kb := fun w => sub64 y 0 dd y0 (by omega) (by omega) dd0 dd1 w
          obtain ⟨s', d', hss, hdd, s0', s1', d0', d1', hsum'⟩ := bor_sum y 0 dd y0 y1 (by omega) (by omega) dd0 dd1
          rw [hss, hdd] at kb
          have Hy := Lib.hid hy; clear hy
          have Hsum' := Lib.hid hsum'; clear hsum'
          clear hss hdd ka
          go_wp2_with fail
          go_roundw
          case measure => simp [intOf]; omega
          case rel =>
           refine ⟨k + 1, upd h k s', d', by omega, by omega, by go_num, rfl, d0', d1', ?_, ?_, ?_, M0.out.set _ _, M2.out.other _ _ (by simp <;> omega), by first | exact hB.setCell (Nat.le_refl _) _ | exact (hB.setCell (Nat.le_refl _) _).drew⟩
           · intro j hj
             by_cases e : j = k
             · subst e; rw [qw]; exact ⟨s0', s1'⟩
             · rw [qD _ _ _ _ e]; exact Hd.out j (by omega)
           · intro j hj; rw [qD _ _ _ _ (by omega)]; exact Hg.out j (by omega)
           · have := sub_step _ _ _ 38 _ 0 _ _ _ Hs.out Hsum'.out
             simp only [qr]
             rw [qU _ _ _ _ _ (Nat.le_refl _), qw, ← Hy.out, Int.pow_succ, this]
             omega
        · obtain rfl : k = 4 := by omega
          obtain ⟨A2, hA2, hrow, hsum2⟩ := qcb h Hd.out
          have hs4 := Hs.out
          rw [hsum2, qcC A HA.out, qb8] at hs4
          have m0 := M0.out
          rw [hrow] at m0
          obtain ⟨o2, rfl⟩ := Int.eq_ofNat_of_zero_le dd0
          have hnum : A2 + 38 = A + o2 * 115792089237316195423570985008687907853269984665640564039457584007913129639936 := by omega
          have hres2 : ((A2 : Int) - o2 * 115792089237316195423570985008687907853269984665640564039457584007913129639936) % (PP : Int) = r := by rw [minus_mod A A2 o2 hnum]; exact Hres.out
          have hms : qa9 o2 A2 < gk := by rw [Hgk.out]; exact rounds_down A A2 o2 (by omega) hnum hA2
          have M0 := Lib.hid m0; clear m0
          have Hres2 := Lib.hid hres2; clear hres2
          have HA2 := Lib.hid hA2; clear hA2
          have Hms := Lib.hid hms; clear hms
          clear hrow hsum2 hs4 ka hnum
          go_wp2_with fail
          go_roundg (qa9 o2 A2)
          case measure => exact Hms.out
          case rel => exact ⟨A2, o2, rfl, HA2.out, by omega, rfl, Hres2.out, M0.out, M2.out, hB⟩
     · obtain rfl : c = 0 := by omega
       obtain ⟨Z, hZ, mz⟩ := M2.out
       have hfin : A % PP = r.toNat := by
        have := Hres.out
        rw [← this]
        have e : ((A : Int) - ((0 : Nat) : Int) * 115792089237316195423570985008687907853269984665640564039457584007913129639936) = (A : Int) := by omega
        rw [e, ← Int.natCast_emod, Int.toNat_natCast]
       have HBB := Lib.hid (below_setRow hB (w.heap.size + 1 + 1) (e4 A) (by omega))
       have Mz := Lib.hid mz; clear mz
       have HZ := Lib.hid hZ; clear hZ
       have Hfin := Lib.hid hfin; clear hfin
       clear Hgk Hres
       go_wp2_with (first | (refine wpList_load_row rfl 36 _ rfl (w.heap.size) rfl 36 (e4 A) (0, 0) _ M0.out Try.underlying36 rfl (by rw [qd]; kernel_rfl) ?_) | (refine wpList_store_row rfl 36 _ _ rfl (w.heap.size + 1 + 1) _ rfl rfl 36 Z Mz.out (by rw [qd]; kernel_rfl) (HZ.out.trans (qd _).symm) (qp _ _ _) ?_))
       exact bodyPost_ret (v := .agg (e4 A)) (results_cell_row (t := 36) (by rfl) _ _ (w.heap.size + 1 + 1) _ _ _ rfl (Mz.out.setRow _) Try.underlying36 rfl (by rw [qd]; kernel_rfl)) rfl ⟨A, HA.out, Hfin.out, rfl, HBB.out⟩
end
section
open Go.RowKit Go.Lib
theorem mul_step (x y wd cr : Int) (hx : 0 ≤ x) (hx' : x < 18446744073709551616) (hy : 0 ≤ y) (hy' : y < 18446744073709551616) (hw : 0 ≤ wd) (hw' : wd < 18446744073709551616) (hc : 0 ≤ cr) (hc' : cr < 18446744073709551616) :
 ∃ hi lo s1 c1 s2 c2 : Int, x * y / 18446744073709551616 = hi ∧ x * y % 18446744073709551616 = lo ∧ (lo + wd) % 18446744073709551616 = s1 ∧ (lo + wd) / 18446744073709551616 = c1 ∧ (s1 + cr) % 18446744073709551616 = s2 ∧ (s1 + cr) / 18446744073709551616 = c2 ∧
  0 ≤ hi ∧ hi < 18446744073709551616 ∧ 0 ≤ lo ∧ lo < 18446744073709551616 ∧ 0 ≤ s1 ∧ s1 < 18446744073709551616 ∧ 0 ≤ c1 ∧ c1 ≤ 1 ∧ 0 ≤ s2 ∧ s2 < 18446744073709551616 ∧ 0 ≤ c2 ∧ c2 ≤ 1 ∧ hi + c1 < 18446744073709551616 ∧ hi + c1 + c2 < 18446744073709551616 ∧
  s2 + 18446744073709551616 * (hi + c1 + c2) = x * y + wd + cr := by
 have hp : x * y ≤ 18446744073709551615 * 18446744073709551615 := Int.mul_le_mul (by omega) (by omega) hy (by decide)
 have hp0 : 0 ≤ x * y := Int.mul_nonneg hx hy
 generalize x * y = p at *
 exact ⟨_, _, _, _, _, _, rfl, rfl, rfl, rfl, rfl, rfl, by omega, by omega, by omega, by omega, by omega, by omega, by omega, by omega, by omega, by omega, by omega, by omega, by omega, by omega, by omega⟩
theorem qdA (B : Int) (f : Nat → Int) (n : Nat) : qr B f (n + 1) = qr B f n + f n * B ^ n := rfl
theorem mul_add (H G D X b y cr wd s2 k' Bk : Int) (h : H + cr * (D * Bk) = G + X * D * b) (hs : s2 + 18446744073709551616 * k' = X * y + wd + cr) : H + (s2 - wd) * (D * Bk) + k' * (D * (Bk * 18446744073709551616)) = G + X * D * (b + y * Bk) := by
 have : s2 = X * y + wd + cr - 18446744073709551616 * k' := by omega
 subst this; grind
theorem low_add (S D F G x y c r q : Int) (h : S + c * D = F + 38 * G) (hr : r + 18446744073709551616 * q = y * 38 + x + c) : (S + r * D) + q * (D * 18446744073709551616) = (F + x * D) + 38 * (G + y * D) := by
 have : r = y * 38 + x + c - 18446744073709551616 * q := by omega
 subst this; grind
theorem lh_mod (A o L H m : Nat) (h : A + o * 115792089237316195423570985008687907853269984665640564039457584007913129639936 = L + 38 * H) (hm : m = L + 115792089237316195423570985008687907853269984665640564039457584007913129639936 * H) : (A + o * 115792089237316195423570985008687907853269984665640564039457584007913129639936) % PP = m % PP := by
 have e : 115792089237316195423570985008687907853269984665640564039457584007913129639936 = 38 + 2 * PP := by decide +kernel
 rw [h, hm, e, Nat.add_mul, ← Nat.add_assoc, show 2 * PP * H = PP * (2 * H) by ac_rfl, Nat.add_mul_mod_self_left]
theorem qL (a b : Nat) (ha : a < 115792089237316195423570985008687907853269984665640564039457584007913129639936) (hb : b < 115792089237316195423570985008687907853269984665640564039457584007913129639936) (w : World) :
 Calls Try.prog 31 #[.agg (e4 a), .agg (e4 b)] w (ElP (a * b % PP) w) := by
 obtain ⟨r, hr⟩ : ∃ r, r = a * b % PP := ⟨_, rfl⟩
 rw [← hr]
 have Ha := Lib.hid ha; clear ha
 have Hb := Lib.hid hb; clear hb
 have Hr := Lib.hid hr; clear hr
 go_enter Try.func31, Try.ntmps31
 have M0 := Lib.hid (((Has.new w (e4 a) 36).alloc (.cells (e4 b) 36)).alloc (.cells (#[.int .u64 0, .int .u64 0, .int .u64 0, .int .u64 0] : Array Value) 36) |>.alloc (.cells (#[.int .u64 0, .int .u64 0, .int .u64 0, .int .u64 0, .int .u64 0, .int .u64 0, .int .u64 0, .int .u64 0] : Array Value) 96))
 go_wp2_with (refine wpList_load_row rfl 36 _ rfl (w.heap.size) rfl 36 (e4 a) (0, 0) _ M0.out Try.underlying36 rfl (by rw [qd]; kernel_rfl) ?_)
 clear M0
 go_loopw [21] (fun i wr => ∃ (k : Nat) (h : Nat → Int), k ≤ 4 ∧ i = .int .i64 k ∧ (∀ j, 0 ≤ h j ∧ h j < 18446744073709551616) ∧ (∀ j, k + 4 ≤ j → h j = 0) ∧ qr 18446744073709551616 h (k + 4) = qr 18446744073709551616 (dg 18446744073709551616 a) k * b ∧ Has wr w.heap.size (e4 a) 36 ∧ Has wr (w.heap.size + 1) (e4 b) 36 ∧ HasN wr (w.heap.size + 1 + 1) 4 36 ∧ Has wr (w.heap.size + 1 + 1 + 1) (row .u64 8 h) 96 ∧ Below w.heap.size w wr) (fun i _ => 4 - (intOf i).toNat)
 case atStart => exact ⟨0, fun _ => 0, by omega, rfl, fun j => by simp, fun _ _ => rfl, by rw [Q6 _ _ _ (fun _ _ => rfl)]; simp [qr], ((Has.new _ _ _).alloc _ |>.alloc _).alloc _, ((Has.new1 _ _ _ _).alloc _).alloc _, (HasN.new2 _ _ _ _ _ 4 rfl).alloc _, Has.new3 _ _ _ _ _ _, qae _ _ _ _ _⟩
 case round =>
  obtain ⟨i, g, hi, rfl, hd, hz, hs, m0, m1, m2, m3, hB⟩ := hrel
  have M0 := Lib.hid m0; clear m0
  have M1 := Lib.hid m1; clear m1
  have M2 := Lib.hid m2; clear m2
  have M3 := Lib.hid m3; clear m3
  have Hd := Lib.hid hd; clear hd
  have Hz := Lib.hid hz; clear hz
  have Hs := Lib.hid hs; clear hs
  by_cases hlt : i < 4
  · have hix := fun w => ze w 36 34 4 .u64 Try.underlying36 Try.underlying34 sz_u64 (dg 18446744073709551616 a) i hlt
    have x0 := qbL a i
    have x1 := qbh a i
    obtain ⟨x, hx⟩ : ∃ x, x = dg 18446744073709551616 a i := ⟨_, rfl⟩
    rw [← hx] at hix x0 x1
    rw [show row .u64 4 (dg 18446744073709551616 a) = e4 a from rfl] at hix
    have Hx := Lib.hid hx; clear hx
    go_wp2_with (refine wpList_load_row rfl 36 _ rfl (w.heap.size + 1) rfl 36 (e4 b) (0, 0) _ M1.out Try.underlying36 rfl (by rw [qd]; kernel_rfl) ?_)
    obtain ⟨w2, rfl⟩ : ∃ w2 : World, w2 = wr := ⟨_, rfl⟩
    go_loopw [8, 26] (fun u s wr => ∃ (k : Nat) (h : Nat → Int) (cr : Int), k ≤ 4 ∧ s = .int .i64 k ∧ u = .int .u64 cr ∧ 0 ≤ cr ∧ cr < 18446744073709551616 ∧ (∀ j, 0 ≤ h j ∧ h j < 18446744073709551616) ∧ (∀ j, i + 4 ≤ j → h j = 0) ∧ qr 18446744073709551616 h (i + 4) + cr * (18446744073709551616 ^ i * 18446744073709551616 ^ k) = qr 18446744073709551616 g (i + 4) + x * 18446744073709551616 ^ i * qr 18446744073709551616 (dg 18446744073709551616 b) k ∧ Has wr w.heap.size (e4 a) 36 ∧ Has wr (w.heap.size + 1) (e4 b) 36 ∧ HasN wr (w.heap.size + 1 + 1) 4 36 ∧ Has wr (w.heap.size + 1 + 1 + 1) (row .u64 8 h) 96 ∧ Below w.heap.size w wr) (fun _ s _ => 4 - (intOf s).toNat)
    case atStart => exact ⟨0, g, 0, by omega, rfl, rfl, by omega, by omega, Hd.out, Hz.out, by rw [show qr 18446744073709551616 (dg 18446744073709551616 b) 0 = 0 from rfl]; simp, M0.out, M1.out, M2.out, M3.out, hB⟩
    case round =>
     clear M0 M1 M2 M3 hB
     obtain ⟨k, h, cr, hk, rfl, rfl, cr0, cr1, hd, hz, hs, m0, m1, m2, m3, hB⟩ := hrel
     have He := Lib.hid hd; clear hd
     have Hy := Lib.hid hz; clear hz
     have Ht := Lib.hid hs; clear hs
     have M0 := Lib.hid m0; clear m0
     have M1 := Lib.hid m1; clear m1
     have M2 := Lib.hid m2; clear m2
     have M3 := Lib.hid m3; clear m3
     by_cases hlk : k < 4
     · have hiy := fun w => ze w 36 34 4 .u64 Try.underlying36 Try.underlying34 sz_u64 (dg 18446744073709551616 b) k hlk
       have y0 := qbL b k
       have y1 := qbh b k
       have h3 := M3.out.cell (i + k) (by omega)
       have hfz := M3.out.frozen (i + k)
       have z0 := (He.out (i + k)).1
       have z1 := (He.out (i + k)).2
       obtain ⟨y, hy⟩ : ∃ y, y = dg 18446744073709551616 b k := ⟨_, rfl⟩
       obtain ⟨wd, hwd⟩ : ∃ z, z = h (i + k) := ⟨_, rfl⟩
       rw [← hy] at hiy y0 y1
       rw [← hwd] at h3 z0 z1
       rw [show row .u64 4 (dg 18446744073709551616 b) = e4 b from rfl] at hiy
       have hm := fun w => mul64 x y x0 x1 y0 y1 w
       obtain ⟨hi', lo, s1, c1, s2, c2, e1, e2, e3, e4', e5, e6, b1, b2, b3, b4, b5, b6, b7, b8, b9, b10, b11, b12, b13, b14, hsum⟩ := mul_step x y wd cr x0 x1 y0 y1 z0 z1 cr0 cr1
       have ka := fun w => qbJ lo wd b3 z0 w
       have kb := fun w => qbJ s1 cr b5 cr0 w
       rw [e1, e2] at hm
       rw [e3, e4'] at ka
       rw [e5, e6] at kb
       have HyK := Lib.hid hy; clear hy
       have Hwd := Lib.hid hwd; clear hwd
       have Hm := Lib.hid hm; clear hm
       have Hsum := Lib.hid hsum; clear hsum
       clear e1 e2 e3 e4' e5 e6
       go_wp2_with fail
       refine (Hm.out _).mono ?_
       rintro e w3 ⟨rfl, rfl⟩
       go_wp2_with fail
       go_roundw
       case measure => simp [intOf]; omega
       case rel =>
        refine ⟨k + 1, upd h (i + k) s2, hi' + c1 + c2, by omega, by go_num, rfl, by omega, b14, ?_, ?_, ?_, M0.out.other _ _ (by simp <;> omega), M1.out.other _ _ (by simp <;> omega), M2.out.other _ _ (by simp <;> omega), M3.out.set _ _, by first | exact hB.setCell (by simp <;> omega) _ | exact (hB.setCell (by simp <;> omega) _).drew⟩
        · intro j
          by_cases e : j = i + k
          · subst e; rw [qw]; exact ⟨b9, b10⟩
          · rw [qD _ _ _ _ e]; exact He.out j
        · intro j hj; rw [qD _ _ _ _ (by omega)]; exact Hy.out j hj
        · rw [Qs _ _ _ _ _ (by omega), ← Hwd.out, Int.pow_add]
          simp only [qr]
          rw [← HyK.out, Int.pow_succ]
          exact mul_add _ _ _ _ _ _ _ _ _ _ _ Ht.out Hsum.out
     · obtain rfl : k = 4 := by omega
       have h3 := M3.out.cell (i + 4) (by omega)
       have hfz := M3.out.frozen (i + 4)
       clear hix
       go_wp2_with fail
       go_roundw
       case measure => simp [intOf]; omega
       case rel =>
        refine ⟨i + 1, upd h (i + 4) cr, by omega, by go_num, ?_, ?_, ?_, M0.out.other _ _ (by simp <;> omega), M1.out.other _ _ (by simp <;> omega), M2.out.other _ _ (by simp <;> omega), M3.out.set _ _, by first | exact hB.setCell (by simp <;> omega) _ | exact (hB.setCell (by simp <;> omega) _).drew⟩
        · intro j
          by_cases e : j = i + 4
          · subst e; rw [qw]; exact ⟨cr0, cr1⟩
          · rw [qD _ _ _ _ e]; exact He.out j
        · intro j hj; rw [qD _ _ _ _ (by omega)]; exact Hy.out j (by omega)
        · rw [show i + 1 + 4 = (i + 4) + 1 by omega]
          have e1 := Ht.out
          rw [Hs.out, qcC b Hb.out] at e1
          rw [qdA _ (upd h (i + 4) cr) (i + 4), qdA _ (dg 18446744073709551616 a) i, qU _ _ _ _ _ (Nat.le_refl _), qw, Int.pow_add 18446744073709551616 i 4, Int.add_mul, ← Hx.out]
          exact e1
  · obtain rfl : i = 4 := by omega
    have hwide := Hs.out
    rw [qcC a Ha.out] at hwide
    have hlow := qcb g (fun j _ => Hd.out j)
    have hhigh := qcb (fun j => g (j + 4)) (fun j _ => Hd.out (j + 4))
    obtain ⟨lw, hlw, _, hlws⟩ := hlow
    obtain ⟨hg, hhg, _, hhgs⟩ := hhigh
    have hsp := Zc 18446744073709551616 g 4 4
    rw [show (4 + 4 : Nat) = 8 from rfl] at hsp
    rw [show (4 + 4 : Nat) = 8 from rfl, hsp, hlws, hhgs, qb8] at hwide
    have hnum : a * b = lw + 115792089237316195423570985008687907853269984665640564039457584007913129639936 * hg := by
     have : ((a * b : Nat) : Int) = ((lw + 115792089237316195423570985008687907853269984665640564039457584007913129639936 * hg : Nat) : Int) := by rw [Int.natCast_mul, ← hwide, Int.natCast_add, Int.natCast_mul]; rfl
     exact Int.ofNat_inj.1 this
    have N0 := Lib.hid (M2.out.alloc (.cells (#[.int .u64 0, .int .u64 0, .int .u64 0, .int .u64 0] : Array Value) 36))
    have N3 := Lib.hid (M3.out.alloc (.cells (#[.int .u64 0, .int .u64 0, .int .u64 0, .int .u64 0] : Array Value) 36))
    have N4 := Lib.hid (Has.new wr (#[.int .u64 0, .int .u64 0, .int .u64 0, .int .u64 0] : Array Value) 36)
    have HB := Lib.hid (hB.alloc hB.size (.cells (#[.int .u64 0, .int .u64 0, .int .u64 0, .int .u64 0] : Array Value) 36))
    have hl3 := M3.out.lt
    have Hnum := Lib.hid hnum; clear hnum
    have Hlws := Lib.hid hlws; clear hlws
    have Hhgs := Lib.hid hhgs; clear hhgs
    clear hwide hsp M0 M1 M2 M3 hB Ha Hb Hs
    rw [show ((4 : Nat) : Int) = 4 from rfl]
    go_wp2_with fail
    obtain ⟨w2, rfl⟩ : ∃ w2 : World, w2 = wr := ⟨_, rfl⟩
    go_loopw [15, 68] (fun u s wr => ∃ (k : Nat) (h : Nat → Int) (cr : Int), k ≤ 4 ∧ s = .int .i64 k ∧ u = .int .u64 cr ∧ 0 ≤ cr ∧ cr < 18446744073709551616 ∧ (∀ j, 0 ≤ h j ∧ h j < 18446744073709551616) ∧ qr 18446744073709551616 h k + cr * 18446744073709551616 ^ k = qr 18446744073709551616 g k + 38 * qr 18446744073709551616 (fun j => g (j + 4)) k ∧ HasN wr (w.heap.size + 1 + 1) 4 36 ∧ Has wr (w.heap.size + 1 + 1 + 1) (row .u64 8 g) 96 ∧ Has wr w2.heap.size (row .u64 4 h) 36 ∧ Below w.heap.size w wr) (fun _ s _ => 4 - (intOf s).toNat)
    case atStart => exact ⟨0, fun _ => 0, 0, by omega, rfl, rfl, by omega, by omega, fun j => by simp, by simp [qr], N0.out, N3.out, N4.out, HB.out⟩
    case round =>
     clear N0 N3 N4 HB
     obtain ⟨k, h, cr, hk, rfl, rfl, cr0, cr1, hd, hs, m2, m3, m4, hB⟩ := hrel
     have He := Lib.hid hd; clear hd
     have M2 := Lib.hid m2; clear m2
     have M3 := Lib.hid m3; clear m3
     have M4 := Lib.hid m4; clear m4
     have Hs := Lib.hid hs; clear hs
     by_cases hlk : k < 4
     · have h1 := M3.out.cell k (by omega)
       have h2 := M3.out.cell (k + 4) (by omega)
       have h3 := M4.out.cell k hlk
       have hfz := M4.out.frozen k
       have x0 := (Hd.out (k + 4)).1
       have x1 := (Hd.out (k + 4)).2
       have z0 := (Hd.out k).1
       have z1 := (Hd.out k).2
       obtain ⟨x, hx⟩ : ∃ x, x = g (k + 4) := ⟨_, rfl⟩
       obtain ⟨wd, hwd⟩ : ∃ z, z = g k := ⟨_, rfl⟩
       rw [← hx] at h2 x0 x1
       rw [← hwd] at h1 z0 z1
       have hm := fun w => mul64 x 38 x0 x1 (by omega) (by omega) w
       obtain ⟨hi', lo, s1, c1, s2, c2, e1, e2, e3, e4', e5, e6, b1, b2, b3, b4, b5, b6, b7, b8, b9, b10, b11, b12, b13, b14, hsum⟩ := mul_step x 38 wd cr x0 x1 (by omega) (by omega) z0 z1 cr0 cr1
       have ka := fun w => qbJ lo wd b3 z0 w
       have kb := fun w => qbJ s1 cr b5 cr0 w
       rw [e1, e2] at hm
       rw [e3, e4'] at ka
       rw [e5, e6] at kb
       have Hx := Lib.hid hx; clear hx
       have Hwd := Lib.hid hwd; clear hwd
       have Hm := Lib.hid hm; clear hm
       have Hsum := Lib.hid hsum; clear hsum
       clear e1 e2 e3 e4' e5 e6
       go_wp2_with fail
       refine (Hm.out _).mono ?_
       rintro e w3 ⟨rfl, rfl⟩
       go_wp2_with fail
       go_roundw
       case measure => simp [intOf]; omega
       case rel =>
        refine ⟨k + 1, upd h k s2, hi' + c1 + c2, by omega, by go_num, rfl, by omega, b14, ?_, ?_, M2.out.other _ _ (by simp <;> omega), M3.out.other _ _ (by simp <;> omega), M4.out.set _ _, by first | exact hB.setCell (by simp <;> omega) _ | exact (hB.setCell (by simp <;> omega) _).drew⟩
        · intro j
          by_cases e : j = k
          · subst e; rw [qw]; exact ⟨b9, b10⟩
          · rw [qD _ _ _ _ e]; exact He.out j
        · simp only [qr]
          rw [qU _ _ _ _ _ (Nat.le_refl _), qw, ← Hx.out, ← Hwd.out, Int.pow_succ]
          exact low_add _ _ _ _ _ _ _ _ _ Hs.out Hsum.out
     · obtain rfl : k = 4 := by omega
       obtain ⟨A', hA', hrow, hsumA⟩ := qcb h (fun j _ => He.out j)
       have hs4 := Hs.out
       rw [hsumA, Hlws.out, Hhgs.out, qb8] at hs4
       have m4 := M4.out
       rw [hrow] at m4
       obtain ⟨o', rfl⟩ := Int.eq_ofNat_of_zero_le cr0
       have hf := fun w => fold_any A' o' hA' (by omega) w
       have hres : (A' + o' * 115792089237316195423570985008687907853269984665640564039457584007913129639936) % PP = r := by rw [Hr.out]; exact lh_mod A' o' lw hg (a * b) (by omega) Hnum.out
       rw [hres] at hf
       have Q4 := Lib.hid m4; clear m4 M4
       have Hf := Lib.hid hf; clear hf
       clear hrow hsumA hs4 hA' hres hlw hhg
       go_wp2_with (refine wpList_load_row rfl 36 _ rfl (w2.heap.size) rfl 36 (e4 A') (0, 0) _ Q4.out Try.underlying36 rfl (by rw [qd]; kernel_rfl) ?_)
       refine (Hf.out _).mono ?_
       rintro e w4 ⟨m, hm, hmr, rfl, b1⟩
       obtain ⟨Z, hZ, mz⟩ := M2.out.call b1
       have HBB := Lib.hid (below_setRow (qh hB b1) (w.heap.size + 1 + 1) (e4 m) (by omega))
       have Mz := Lib.hid mz; clear mz
       have HZ := Lib.hid hZ; clear hZ
       have Hm := Lib.hid hm; clear hm
       have Hmr := Lib.hid hmr; clear hmr
       clear b1
       go_wp2_with (refine wpList_store_row rfl 36 _ _ rfl (w.heap.size + 1 + 1) _ rfl rfl 36 Z Mz.out (by rw [qd]; kernel_rfl) (HZ.out.trans (qd _).symm) (qp _ _ _) ?_)
       exact bodyPost_ret (v := .agg (e4 m)) (results_cell_row (t := 36) (by rfl) _ _ (w.heap.size + 1 + 1) _ _ _ rfl (Mz.out.setRow _) Try.underlying36 rfl (by rw [qd]; kernel_rfl)) rfl ⟨m, Hm.out, Hmr.out, rfl, HBB.out⟩
end
section
open Go.RowKit Go.Lib
def ofw (n k q : Nat) : Nat := if k ≤ 8 * q then n / 256 ^ (8 * q) % 256 ^ 8 else if 8 * q + 8 ≤ k then 0 else n / 256 ^ k % 256 ^ (8 * q + 8 - k)
theorem qcX (n k q : Nat) (h1 : 8 * q ≤ k) (h2 : k ≤ 8 * q + 8) : ofw n k q = n / 256 ^ k % 256 ^ (8 * q + 8 - k) := by
 unfold ofw
 split
 · have : k = 8 * q := by omega
   subst this; rw [show 8 * q + 8 - 8 * q = 8 by omega]
 · split
   · have : k = 8 * q + 8 := by omega
     subst this; simp [Nat.mod_one]
   · rfl
theorem ofw_other (n k q : Nat) (h : q ≠ k / 8) : ofw n (k + 1) q = ofw n k q := by
 unfold ofw
 by_cases h1 : k + 1 ≤ 8 * q
 · rw [if_pos h1, if_pos (by omega)]
 · rw [if_neg h1, if_neg (show ¬ k ≤ 8 * q by omega), if_pos (show 8 * q + 8 ≤ k + 1 by omega), if_pos (show 8 * q + 8 ≤ k by omega)]
theorem ofw_step (n k : Nat) : ofw n k (k / 8) = ofw n (k + 1) (k / 8) * 256 + n / 256 ^ k % 256 := by
 rw [qcX n k (k / 8) (by omega) (by omega), qcX n (k + 1) (k / 8) (by omega) (by omega)]
 have e : 8 * (k / 8) + 8 - k = (8 * (k / 8) + 8 - (k + 1)) + 1 := by omega
 rw [e, Nat.pow_succ 256 (8 * (k / 8) + 8 - (k + 1)), Nat.mul_comm, Nat.mod_mul, Nat.pow_succ 256 k, ← Nat.div_div_eq_div_mul]
 omega
theorem ofw_lt (n k : Nat) : ofw n (k + 1) (k / 8) < 72057594037927936 := by
 rw [qcX n (k + 1) (k / 8) (by omega) (by omega)]
 have h1 : n / 256 ^ (k + 1) % 256 ^ (8 * (k / 8) + 8 - (k + 1)) < 256 ^ (8 * (k / 8) + 8 - (k + 1)) := Nat.mod_lt _ (Nat.pow_pos (by decide))
 have h2 : 256 ^ (8 * (k / 8) + 8 - (k + 1)) ≤ 256 ^ 7 := Nat.pow_le_pow_right (by decide) (by omega)
 have h3 : (256 : Nat) ^ 7 = 72057594037927936 := by decide
 omega
theorem or_byte (a b : Nat) (ha : a < 72057594037927936) (hb : b < 256) : bits .or .u64 ((a : Int) * 256) (b : Int) = ((a * 256 + b : Nat) : Int) := by
 have h := bits_or_u64_nat (a * 256) b (by omega) (by omega)
 have e : a * 256 ||| b = a * 256 + b := by
  have := Nat.shiftLeft_add_eq_or_of_lt (i := 8) (b := b) (by omega) a
  rw [Nat.shiftLeft_eq] at this
  exact this.symm
 rw [e] at h
 rw [← h, Int.natCast_mul]; rfl
theorem and_top (a : Nat) (ha : a < 18446744073709551616) : bits .and .u64 (a : Int) 9223372036854775807 = ((a % 9223372036854775808 : Nat) : Int) := by
 have h := bits_and_u64_nat a 9223372036854775807 ha (by omega)
 have e : a &&& 9223372036854775807 = a % 9223372036854775808 := Nat.and_two_pow_sub_one_eq_mod a 63
 rw [e] at h
 exact h
theorem ofw_0 (n q : Nat) : (ofw n 0 q : Int) = dg 18446744073709551616 n q := by
 unfold ofw dg
 rw [if_pos (by omega), Nat.pow_mul, show (256 : Nat) ^ 8 = 18446744073709551616 by decide]
theorem top_row (n : Nat) (hn : n < 115792089237316195423570985008687907853269984665640564039457584007913129639936) (h : Nat → Int) (hh : ∀ q, q < 4 → h q = dg 18446744073709551616 n q) (t : Nat) (ht : h 3 = t) : row .u64 4 (upd h 3 ((t % 9223372036854775808 : Nat) : Int)) = e4 (n % 57896044618658097711785492504343953926634992332820282019728792003956564819968) := by
 have h3 : (t : Int) = ((n / 18446744073709551616 ^ 3 % 18446744073709551616 : Nat) : Int) := by rw [← ht, hh 3 (by omega)]; rfl
 have hp : (18446744073709551616 : Nat) ^ 3 = 6277101735386680763835789423207666416102355444464034512896 := by decide +kernel
 refine Qb _ _ _ _ (zo 18446744073709551616 _ _ 4 (fun i hi => ?_) ?_)
 · by_cases e : i = 3
   · subst e; rw [qw]; omega
   · rw [qD _ _ _ _ e, hh i hi]; exact ⟨qbL n i, qbh n i⟩
 · show qr 18446744073709551616 _ 4 = _
   rw [Qs _ _ _ _ _ (by omega), zi _ h (dg 18446744073709551616 n) 4 hh, qcC n hn, ht]
   have hp3 : (18446744073709551616 : Int) ^ 3 = 6277101735386680763835789423207666416102355444464034512896 := by decide +kernel
   rw [hp] at h3
   rw [hp3]
   omega
theorem of_any (n : Nat) (hn : n < 115792089237316195423570985008687907853269984665640564039457584007913129639936) (w : World) :
 Calls Try.prog 30 #[.agg (k32 n)] w fun e w' => e = .returned (.agg (e4 (n % 57896044618658097711785492504343953926634992332820282019728792003956564819968))) ∧ Below w.heap.size w w' := by
 have HT := Lib.hid (top_row n hn); clear hn
 obtain ⟨r, hr⟩ : ∃ r, r = n % 57896044618658097711785492504343953926634992332820282019728792003956564819968 := ⟨_, rfl⟩
 rw [← hr] at HT ⊢
 clear hr
 go_enter Try.func30, Try.ntmps30
 go_wp2_with fail
 go_loopw [3] (fun i wr => ∃ (k : Nat) (h : Nat → Int), k ≤ 32 ∧ i = .int .i64 ((k : Int) - 1) ∧ (∀ q, q < 4 → h q = (ofw n k q : Int)) ∧ Has wr w.heap.size (k32 n) 24 ∧ Has wr (w.heap.size + 1) (row .u64 4 h) 36 ∧ Below w.heap.size w wr) (fun i _ => (intOf i + 1).toNat)
 case atStart =>
  refine ⟨32, fun _ => 0, by omega, rfl, fun q hq => ?_, (Has.new _ _ _).alloc _, Has.new1 _ _ _ _, Qx _ _ _⟩
  unfold ofw
  rw [if_neg (by omega), if_pos (by omega)]; rfl
 case round =>
  obtain ⟨k, h, hk, rfl, hh, m0, m1, hB⟩ := hrel
  have M0 := Lib.hid m0; clear m0
  have M1 := Lib.hid m1; clear m1
  have Hh := Lib.hid hh; clear hh
  by_cases hlt : 0 < k
  · obtain ⟨k, rfl⟩ : ∃ j, k = j + 1 := ⟨k - 1, by omega⟩
    rw [show (((k + 1 : Nat) : Int) - 1) = (k : Int) by omega]
    have h1 := M0.out.cell k (by omega)
    have h2 := M1.out.cell (k / 8) (by omega)
    have hfz := M1.out.frozen (k / 8)
    rw [Hh.out (k / 8) (by omega)] at h2
    have x1 := ofw_lt n k
    have hst := ofw_step n k
    obtain ⟨x, hx⟩ : ∃ x, x = ofw n (k + 1) (k / 8) := ⟨_, rfl⟩
    obtain ⟨y, hy⟩ : ∃ y, y = n / 256 ^ k % 256 := ⟨_, rfl⟩
    have y1 : y < 256 := by rw [hy]; exact Nat.mod_lt _ (by decide)
    rw [show dg 256 n k = ((n / 256 ^ k % 256 : Nat) : Int) from rfl, ← hy] at h1
    rw [← hx] at h2 x1 hst
    rw [← hy] at hst
    have hor := or_byte x y x1 y1
    have k2 : (0 : Int) ≤ (k : Int) / 8 := by omega
    have k3 : (k : Int) / 8 < 4 := by omega
    have Hx := Lib.hid hx; clear hx
    have Hy := Lib.hid hy; clear hy
    have Hst := Lib.hid hst; clear hst
    go_wp2_with fail
    go_region
    go_wp2_with fail
    go_roundw
    case measure => simp [intOf]
    case rel =>
     refine ⟨k, upd h (k / 8) ((x : Int) * 256 + y), by omega, rfl, ?_, M0.out.other _ _ (by simp <;> omega), M1.out.set _ _, (hB.setCell (by simp <;> omega) _).drew⟩
     intro q hq
     by_cases e : q = k / 8
     · subst e; rw [qw, Hst.out, Int.natCast_add, Int.natCast_mul]; rfl
     · rw [qD _ _ _ _ e, ← ofw_other n k q e]; exact Hh.out q hq
  · obtain rfl : k = 0 := by omega
    have h2 := M1.out.cell 3 (by omega)
    have hfz := M1.out.frozen 3
    have h0 : ∀ q, q < 4 → h q = dg 18446744073709551616 n q := fun q hq => (Hh.out q hq).trans (ofw_0 n q)
    have z1 : ofw n 0 3 < 18446744073709551616 := by
     have := qbh n 3
     rw [← ofw_0] at this; omega
    rw [Hh.out 3 (by omega)] at h2
    obtain ⟨t, ht⟩ : ∃ t, t = ofw n 0 3 := ⟨_, rfl⟩
    rw [← ht] at h2 z1
    have hand := and_top t z1
    have hrow := HT.out h h0 t (by rw [ht]; exact Hh.out 3 (by omega))
    have m1 := M1.out.set 3 ((t % 9223372036854775808 : Nat) : Int)
    rw [hrow] at m1
    have hB2 := hB.setCell (p := ⟨w.heap.size + 1, 3, none⟩) (show w.heap.size ≤ w.heap.size + 1 by omega) (.int .u64 ((t % 9223372036854775808 : Nat) : Int))
    obtain ⟨u, hu⟩ : ∃ u : Int, u = ((t % 9223372036854775808 : Nat) : Int) := ⟨_, rfl⟩
    rw [← hu] at hand m1 hB2
    have HBB := Lib.hid (below_setRow hB2 (w.heap.size + 1) (e4 r) (by omega))
    have Q1 := Lib.hid m1; clear m1
    have Q2 := Lib.hid (Q1.out.setRow (e4 r))
    clear hrow hu ht h0 hB2 M1
    go_wp2_with (first | (refine wpList_load_row rfl 36 _ rfl (w.heap.size + 1) rfl 36 (e4 r) (0, 0) _ Q1.out Try.underlying36 rfl (by rw [qd]; kernel_rfl) ?_) | (refine wpList_store_row rfl 36 _ _ rfl (w.heap.size + 1) _ rfl rfl 36 (e4 r) Q1.out (by rw [qd]; kernel_rfl) rfl (qp _ _ _) ?_))
    exact bodyPost_ret (v := .agg (e4 r)) (results_cell_row (t := 36) (by rfl) _ _ (w.heap.size + 1) _ _ _ rfl Q2.out Try.underlying36 rfl (by rw [qd]; kernel_rfl)) rfl ⟨rfl, HBB.out⟩
end
section
open Go.RowKit Go.Lib
theorem fold_0 (n : Nat) (w : World) : Calls Try.prog 77 #[.agg (e4 n), .int .u64 (0 : Nat)] w fun e w' => e = .returned (.agg (e4 n)) ∧ Below w.heap.size w w' := by
 go_enter Try.func77, Try.ntmps77
 have M0 := Lib.hid ((Has.new w (e4 n) 36).alloc (.cells (#[.int .u64 0, .int .u64 0, .int .u64 0, .int .u64 0] : Array Value) 36))
 obtain ⟨Z, hZ, mz⟩ := HasN.new1 w (.cells (e4 n) 36) (#[.int .u64 0, .int .u64 0, .int .u64 0, .int .u64 0] : Array Value) 36 4 rfl
 have HBB := Lib.hid (below_setRow (Qx w (.cells (e4 n) 36) (.cells (#[.int .u64 0, .int .u64 0, .int .u64 0, .int .u64 0] : Array Value) 36)) (w.heap.size + 1) (e4 n) (by omega))
 have Mz := Lib.hid mz; clear mz
 have HZ := Lib.hid hZ; clear hZ
 go_wp2_with fail
 refine wp_loop_rounds 1 ?_
 rw [rounds_succ]
 go_wp2_with (first | (refine wpList_load_row rfl 36 _ rfl (w.heap.size) rfl 36 (e4 n) (0, 0) _ M0.out Try.underlying36 rfl (by rw [qd]; kernel_rfl) ?_) | (refine wpList_store_row rfl 36 _ _ rfl (w.heap.size + 1) _ rfl rfl 36 Z Mz.out (by rw [qd]; kernel_rfl) (HZ.out.trans (qd _).symm) (qp _ _ _) ?_))
 exact bodyPost_ret (v := .agg (e4 n)) (results_cell_row (t := 36) (by rfl) _ _ (w.heap.size + 1) _ _ _ rfl (Mz.out.setRow _) Try.underlying36 rfl (by rw [qd]; kernel_rfl)) rfl ⟨rfl, HBB.out⟩
theorem qcQ (a b : Nat) (ha : a < 115792089237316195423570985008687907853269984665640564039457584007913129639936) (hb : b < 115792089237316195423570985008687907853269984665640564039457584007913129639936) (hab : a + b < 115792089237316195423570985008687907853269984665640564039457584007913129639936) (w : World) :
 Calls Try.prog 37 #[.agg (e4 a), .agg (e4 b)] w fun e w' => e = .returned (.agg (e4 (a + b))) ∧ Below w.heap.size w w' := by
 obtain ⟨r, hr⟩ : ∃ r, r = a + b := ⟨_, rfl⟩
 rw [← hr] at hab ⊢
 have Ha := Lib.hid ha; clear ha
 have Hb := Lib.hid hb; clear hb
 have Hr := Lib.hid hr; clear hr
 have Hab := Lib.hid hab; clear hab
 go_enter Try.func37, Try.ntmps37
 go_wp2_with fail
 go_loopw [5, 7] (fun s i wr => ∃ (k : Nat) (h : Nat → Int) (c : Int), k ≤ 4 ∧ i = .int .i64 k ∧ s = .int .u64 c ∧ 0 ≤ c ∧ c ≤ 1 ∧ (∀ j, j < k → 0 ≤ h j ∧ h j < 18446744073709551616) ∧ (∀ j, k ≤ j → h j = dg 18446744073709551616 a j) ∧ qr 18446744073709551616 h k + c * 18446744073709551616 ^ k = qr 18446744073709551616 (dg 18446744073709551616 a) k + qr 18446744073709551616 (dg 18446744073709551616 b) k ∧ Has wr w.heap.size (row .u64 4 h) 36 ∧ Has wr (w.heap.size + 1) (e4 b) 36 ∧ HasN wr (w.heap.size + 1 + 1) 4 36 ∧ Below w.heap.size w wr) (fun _ i _ => 4 - (intOf i).toNat)
 case atStart => exact ⟨0, dg 18446744073709551616 a, 0, by omega, rfl, rfl, by omega, by omega, fun j hj => by omega, fun _ _ => rfl, by simp [qr], ((Has.new _ _ _).alloc _).alloc _, (Has.new1 _ _ _ _).alloc _, HasN.new2 _ _ _ _ _ 4 rfl, QD _ _ _ _⟩
 case round =>
  obtain ⟨k, h, c, hk, rfl, rfl, c0, c1, hd, hg, hs, m0, m1, m2, hB⟩ := hrel
  have M0 := Lib.hid m0; clear m0
  have M1 := Lib.hid m1; clear m1
  have M2 := Lib.hid m2; clear m2
  have Hd := Lib.hid hd; clear hd
  have Hg := Lib.hid hg; clear hg
  have Hs := Lib.hid hs; clear hs
  by_cases hlt : k < 4
  · have h1 := M0.out.cell k hlt
    have h2 := M1.out.cell k hlt
    have hfz := M0.out.frozen k
    have x0 := qbL a k
    have x1 := qbh a k
    have y0 := qbL b k
    have y1 := qbh b k
    rw [Hg.out k (Nat.le_refl _)] at h1
    obtain ⟨x, hx⟩ : ∃ x, x = dg 18446744073709551616 a k := ⟨_, rfl⟩
    obtain ⟨y, hy⟩ : ∃ y, y = dg 18446744073709551616 b k := ⟨_, rfl⟩
    rw [← hx] at h1 x0 x1
    rw [← hy] at h2 y0 y1
    have ka := fun w => add64 x y c x0 y0 c0 c1 w
    obtain ⟨s, hss⟩ : ∃ s, s = (x + y + c) % 18446744073709551616 := ⟨_, rfl⟩
    obtain ⟨d, hdd⟩ : ∃ d, d = (x + y + c) / 18446744073709551616 := ⟨_, rfl⟩
    rw [← hss, ← hdd] at ka
    have s0 : 0 ≤ s := by omega
    have s1 : s < 18446744073709551616 := by omega
    have d0 : 0 ≤ d := by omega
    have d1 : d ≤ 1 := by omega
    have hsum : x + y + c = s + 18446744073709551616 * d := by omega
    have Hx := Lib.hid hx; clear hx
    have Hy := Lib.hid hy; clear hy
    have Hsum := Lib.hid hsum; clear hsum
    clear hss hdd
    go_wp2_with fail
    go_region
    go_wp2_with fail
    go_roundw
    case measure => simp [intOf]; omega
    case rel =>
     refine ⟨k + 1, upd h k s, d, by omega, by go_num, rfl, d0, d1, ?_, ?_, ?_, M0.out.set _ _, M1.out.other _ _ (by simp <;> omega), M2.out.other _ _ (by simp <;> omega), by first | exact hB.setCell (Nat.le_refl _) _ | exact (hB.setCell (Nat.le_refl _) _).drew⟩
     · intro j hj
       by_cases e : j = k
       · subst e; rw [qw]; exact ⟨s0, s1⟩
       · rw [qD _ _ _ _ e]; exact Hd.out j (by omega)
     · intro j hj; rw [qD _ _ _ _ (by omega)]; exact Hg.out j (by omega)
     · simp only [qr]
       rw [qU _ _ _ _ _ (Nat.le_refl _), qw, ← Hx.out, ← Hy.out, Int.pow_succ]
       exact add_step _ _ _ _ _ _ _ _ _ Hs.out Hsum.out
  · obtain rfl : k = 4 := by omega
    obtain ⟨A', hA', hrow, hsum⟩ := qcb h Hd.out
    have hs4 := Hs.out
    rw [hsum, qcC a Ha.out, qcC b Hb.out, qb8] at hs4
    have m0 := M0.out
    rw [hrow] at m0
    obtain ⟨o', rfl⟩ := Int.eq_ofNat_of_zero_le c0
    have ho : o' = 0 := by have := Hr.out; have := Hab.out; omega
    subst ho
    have hf := fun w => fold_0 A' w
    rw [show A' = r by rw [Hr.out]; omega] at hf m0
    have M0 := Lib.hid m0; clear m0
    have Hf := Lib.hid hf; clear hf
    clear hrow hsum hs4 hA'
    go_wp2_with (refine wpList_load_row rfl 36 _ rfl (w.heap.size) rfl 36 (e4 r) (0, 0) _ M0.out Try.underlying36 rfl (by rw [qd]; kernel_rfl) ?_)
    refine (Hf.out _).mono ?_
    rintro e w1 ⟨rfl, b1⟩
    obtain ⟨Z, hZ, mz⟩ := M2.out.call b1
    have HBB := Lib.hid (below_setRow (qh hB b1) (w.heap.size + 1 + 1) (e4 r) (by omega))
    have Mz := Lib.hid mz; clear mz
    have HZ := Lib.hid hZ; clear hZ
    clear b1
    go_wp2_with (refine wpList_store_row rfl 36 _ _ rfl (w.heap.size + 1 + 1) _ rfl rfl 36 Z Mz.out (by rw [qd]; kernel_rfl) (HZ.out.trans (qd _).symm) (qp _ _ _) ?_)
    exact bodyPost_ret (v := .agg (e4 r)) (results_cell_row (t := 36) (by rfl) _ _ (w.heap.size + 1 + 1) _ _ _ rfl (Mz.out.setRow _) Try.underlying36 rfl (by rw [qd]; kernel_rfl)) rfl ⟨rfl, HBB.out⟩
end
section
open Go.RowKit Go.Lib
theorem ZN (x : Nat) (hx : x < 18446744073709551616) : (#[.int .u64 (x : Int), .int .u64 0, .int .u64 0, .int .u64 0] : Array Value) = e4 x := by
 have : e4 x = row .u64 4 (fun i => if i = 0 then (x : Int) else 0) := Qb _ _ _ _ fun i hi => by
  unfold dg
  split
  · rename_i h; subst h; rw [Nat.pow_zero, Nat.div_one, Nat.mod_eq_of_lt hx]
  · rw [Nat.div_eq_of_lt (Nat.lt_of_lt_of_le hx (by
     have : 18446744073709551616 ^ 1 ≤ 18446744073709551616 ^ i := Nat.pow_le_pow_right (by decide) (by omega)
     simpa using this))]; rfl
 rw [this]; rfl
theorem top_word (A : Nat) (hA : A < 115792089237316195423570985008687907853269984665640564039457584007913129639936) : ∃ t : Nat, dg 18446744073709551616 A 3 = t ∧ t < 18446744073709551616 ∧ t / 9223372036854775808 = A / 57896044618658097711785492504343953926634992332820282019728792003956564819968 := by
 refine ⟨A / 18446744073709551616 ^ 3 % 18446744073709551616, rfl, Nat.mod_lt _ (by decide), ?_⟩
 have hp : (18446744073709551616 : Nat) ^ 3 = 6277101735386680763835789423207666416102355444464034512896 := by decide +kernel
 rw [hp]; omega
theorem least_round (A : Nat) : (A % 57896044618658097711785492504343953926634992332820282019728792003956564819968 + 19 * (A / 57896044618658097711785492504343953926634992332820282019728792003956564819968)) % PP = A % PP := by
 have e : 57896044618658097711785492504343953926634992332820282019728792003956564819968 = 19 + PP := by decide +kernel
 have h1 := Nat.div_add_mod A 57896044618658097711785492504343953926634992332820282019728792003956564819968
 generalize A % 57896044618658097711785492504343953926634992332820282019728792003956564819968 = x at *
 generalize A / 57896044618658097711785492504343953926634992332820282019728792003956564819968 = q at *
 rw [← h1, e, Nat.add_mul, show 19 * q + PP * q + x = x + 19 * q + PP * q by omega, Nat.add_mul_mod_self_left]
theorem Z4 (n : Nat) (hn : n < 115792089237316195423570985008687907853269984665640564039457584007913129639936) (w : World) :
 Calls Try.prog 79 #[.agg (e4 n)] w fun e w' => e = .returned (.agg (e4 (n % PP))) ∧ Below w.heap.size w w' := by
 obtain ⟨r, hr⟩ : ∃ r, r = n % PP := ⟨_, rfl⟩
 rw [← hr]
 have Hn := Lib.hid hn; clear hn
 have Hr := Lib.hid hr; clear hr
 go_enter Try.func79, Try.ntmps79
 go_wp2_with fail
 go_loopw [5] (fun i wr => ∃ k A : Nat, k ≤ 2 ∧ i = .int .i64 k ∧ A % PP = r ∧ A < 115792089237316195423570985008687907853269984665640564039457584007913129639936 ∧ (1 ≤ k → A < 57896044618658097711785492504343953926634992332820282019728792003956564819987) ∧ (2 ≤ k → A < 57896044618658097711785492504343953926634992332820282019728792003956564819968) ∧ Has wr w.heap.size (e4 A) 36 ∧ HasN wr (w.heap.size + 1) 4 36 ∧ Below w.heap.size w wr) (fun i _ => 2 - (intOf i).toNat)
 case atStart => exact ⟨0, n, by omega, rfl, Hr.out.symm, Hn.out, fun h => by omega, fun h => by omega, (Has.new _ _ _).alloc _, HasN.new1 _ _ _ _ 4 rfl, Qx _ _ _⟩
 case round =>
  obtain ⟨k, A, hk, rfl, hA, hA2, hk1, hk2, m0, m1, hB⟩ := hrel
  have M0 := Lib.hid m0; clear m0
  have M1 := Lib.hid m1; clear m1
  have HA := Lib.hid hA; clear hA
  have Hk1 := Lib.hid hk1; clear hk1
  have Hk2 := Lib.hid hk2; clear hk2
  by_cases hlt : k < 2
  · have h2 := M0.out.cell 3 (by omega)
    have hfz := M0.out.frozen 3
    obtain ⟨t, ht, htb, hov⟩ := top_word A hA2
    rw [ht] at h2
    have hand := and_top t htb
    have hrow := top_row A hA2 (dg 18446744073709551616 A) (fun _ _ => rfl) t ht
    obtain ⟨u, hu⟩ : ∃ u : Int, u = ((t % 9223372036854775808 : Nat) : Int) := ⟨_, rfl⟩
    rw [← hu] at hand hrow
    have m2 := M0.out.set 3 u
    rw [hrow] at m2
    have hlr := least_round A
    obtain ⟨B, hBe⟩ : ∃ B, B = A % 57896044618658097711785492504343953926634992332820282019728792003956564819968 := ⟨_, rfl⟩
    obtain ⟨o, ho⟩ : ∃ o, o = A / 57896044618658097711785492504343953926634992332820282019728792003956564819968 := ⟨_, rfl⟩
    rw [← hBe] at m2 hlr
    rw [← ho] at hlr hov
    have ho1 : o ≤ 1 := by omega
    have hB255 : B < 57896044618658097711785492504343953926634992332820282019728792003956564819968 := by omega
    have hshr : ((t : Nat) : Int) / 9223372036854775808 = (o : Int) := by omega
    have hpe := fun w => qcQ B (19 * o) (by omega) (by omega) (by omega) w
    have hbl := ZN (19 * o) (by omega)
    rw [Int.natCast_mul] at hbl
    have hbl' : (#[.int .u64 (19 * (o : Int)), .int .u64 0, .int .u64 0, .int .u64 0] : Array Value) = e4 (19 * o) := hbl
    obtain ⟨q, hq⟩ : ∃ q, q = 19 * o := ⟨_, rfl⟩
    obtain ⟨A', hA'⟩ : ∃ x, x = B + q := ⟨_, rfl⟩
    rw [← hq] at hpe hbl' hlr
    rw [← hA'] at hpe hlr
    have hk1' : 1 ≤ k + 1 → A' < 57896044618658097711785492504343953926634992332820282019728792003956564819987 := fun _ => by omega
    have hk2' : 2 ≤ k + 1 → A' < 57896044618658097711785492504343953926634992332820282019728792003956564819968 := fun hh => by have := Hk1.out (by omega); omega
    have hA2' : A' < 115792089237316195423570985008687907853269984665640564039457584007913129639936 := by omega
    have Hmod := Lib.hid (show A' % PP = r by rw [hlr]; exact HA.out)
    have M1' := Lib.hid (M1.out.other ⟨w.heap.size, 3, none⟩ (.int .u64 u) (by simp <;> omega))
    have HB' := Lib.hid (hB.setCell (p := ⟨w.heap.size, 3, none⟩) (Nat.le_refl _) (.int .u64 u))
    have Hpe := Lib.hid hpe; clear hpe
    have Hk1' := Lib.hid hk1'; clear hk1'
    have Hk2' := Lib.hid hk2'; clear hk2'
    have HA2' := Lib.hid hA2'; clear hA2'
    have M2 := Lib.hid m2; clear m2
    clear hA' hq hbl ho hBe hlr hrow hu hov M0 M1 hA2 hB
    go_wp2_with (refine wpList_load_row rfl 36 _ rfl (w.heap.size) rfl 36 (e4 B) (0, 0) _ M2.out Try.underlying36 rfl (by rw [qd]; kernel_rfl) ?_)
    refine (Hpe.out _).mono ?_
    rintro e w1 ⟨rfl, b1⟩
    have n1 := M1'.out.call b1
    obtain ⟨Z, hZ, mz⟩ := (M2.out.toN (qd _)).call b1
    have hB2 := qh HB'.out b1
    have q0 := mz.setRow (e4 A')
    have q1 := n1.setRow_other w.heap.size (e4 A') (by omega)
    have hB3 := below_setRow hB2 w.heap.size (e4 A') (Nat.le_refl _)
    clear n1 b1 hB2
    have Mz := Lib.hid mz; clear mz
    have HZ := Lib.hid hZ; clear hZ
    have Q0 := Lib.hid q0; clear q0
    have Q1 := Lib.hid q1; clear q1
    have HB3 := Lib.hid hB3; clear hB3
    go_wp2_with (refine wpList_store_row rfl 36 _ _ rfl (w.heap.size) _ rfl rfl 36 Z Mz.out (by rw [qd]; kernel_rfl) (HZ.out.trans (qd _).symm) (qp _ _ _) ?_)
    go_roundw
    case measure => simp [intOf]; omega
    case rel => exact ⟨k + 1, A', by omega, by go_num, Hmod.out, HA2'.out, Hk1'.out, Hk2'.out, Q0.out, Q1.out, HB3.out⟩
  · obtain rfl : k = 2 := by omega
    have h255 := Hk2.out (by omega)
    have hpe := fun w => qcQ A 19 hA2 (by omega) (by omega) w
    have hbl := ZN 19 (by omega)
    have hbl' : (#[.int .u64 19, .int .u64 0, .int .u64 0, .int .u64 0] : Array Value) = e4 19 := hbl
    obtain ⟨b, hb⟩ : ∃ b, b = A + 19 := ⟨_, rfl⟩
    rw [← hb] at hpe
    have hb256 : b < 115792089237316195423570985008687907853269984665640564039457584007913129639936 := by omega
    have Hpe := Lib.hid hpe; clear hpe
    have Hb := Lib.hid hb; clear hb
    clear hbl
    go_wp2_with (refine wpList_load_row rfl 36 _ rfl (w.heap.size) rfl 36 (e4 A) (0, 0) _ M0.out Try.underlying36 rfl (by rw [qd]; kernel_rfl) ?_)
    refine (Hpe.out _).mono ?_
    rintro e w1 ⟨rfl, b1⟩
    have n0 := (M0.out.call b1).alloc (.cells (#[.int .u64 0, .int .u64 0, .int .u64 0, .int .u64 0] : Array Value) 36)
    have n1 := (M1.out.call b1).alloc (.cells (#[.int .u64 0, .int .u64 0, .int .u64 0, .int .u64 0] : Array Value) 36)
    have hB2 := (qh hB b1).alloc (qh hB b1).size (.cells (#[.int .u64 0, .int .u64 0, .int .u64 0, .int .u64 0] : Array Value) 36)
    have hl1 := (M1.out.call b1).lt
    obtain ⟨Z, hZ, mz⟩ := HasN.new w1 (#[.int .u64 0, .int .u64 0, .int .u64 0, .int .u64 0] : Array Value) 36 4 rfl
    have q0 := n0.setRow_other w1.heap.size (e4 b) (by omega)
    have q1 := n1.setRow_other w1.heap.size (e4 b) (by omega)
    have q2 := mz.setRow (e4 b)
    have hB3 := below_setRow hB2 w1.heap.size (e4 b) (qh hB b1).size
    have h2 := q2.cell 3 (by omega)
    have hfz := q2.frozen 3
    obtain ⟨t, ht, htb, hov⟩ := top_word b hb256
    rw [ht] at h2
    by_cases hc : b < 57896044618658097711785492504343953926634992332820282019728792003956564819968
    · have hz : (t : Int) / 9223372036854775808 = 0 := by omega
      have hfin : A = r := by
       have := HA.out
       rw [Nat.mod_eq_of_lt (by rw [QB]; have := Hb.out; omega)] at this
       exact this
      obtain ⟨Z', hZ', mz'⟩ := q1
      have HBB := Lib.hid (below_setRow hB3 (w.heap.size + 1) (e4 A) (by omega))
      have Mz := Lib.hid mz; clear mz
      have HZ := Lib.hid hZ; clear hZ
      have Q0 := Lib.hid q0; clear q0
      have Q2 := Lib.hid q2; clear q2
      have Mz' := Lib.hid mz'; clear mz'
      have HZ' := Lib.hid hZ'; clear hZ'
      have Hfin := Lib.hid hfin; clear hfin
      have Ht := Lib.hid ht; clear ht
      clear n0 n1 hB2 hB3 b1 M0 M1 hc hov
      go_wp2_with (first | (refine wpList_store_row rfl 36 _ _ rfl (w1.heap.size) _ rfl rfl 36 Z Mz.out (by rw [qd]; kernel_rfl) (HZ.out.trans (qd _).symm) (qp _ _ _) ?_) | (refine wpList_load_row rfl 36 _ rfl (w.heap.size) rfl 36 (e4 A) (0, 0) _ Q0.out Try.underlying36 rfl (by rw [qd]; kernel_rfl) ?_) | (refine wpList_store_row rfl 36 _ _ rfl (w.heap.size + 1) _ rfl rfl 36 Z' Mz'.out (by rw [qd]; kernel_rfl) (HZ'.out.trans (qd _).symm) (qp _ _ _) ?_))
      exact bodyPost_ret (v := .agg (e4 A)) (results_cell_row (t := 36) (by rfl) _ _ (w.heap.size + 1) _ _ _ rfl (Mz'.out.setRow _) Try.underlying36 rfl (by rw [qd]; kernel_rfl)) rfl ⟨by rw [Hfin.out], HBB.out⟩
    · have hz : (t : Int) / 9223372036854775808 = 1 := by omega
      have hand := and_top t htb
      have hrow := top_row b hb256 (dg 18446744073709551616 b) (fun _ _ => rfl) t ht
      obtain ⟨u, hu⟩ : ∃ u : Int, u = ((t % 9223372036854775808 : Nat) : Int) := ⟨_, rfl⟩
      rw [← hu] at hand hrow
      have q3 := q2.set 3 u
      rw [hrow] at q3
      have hfin : b % 57896044618658097711785492504343953926634992332820282019728792003956564819968 = r := by
       rw [← HA.out, Nat.mod_eq_sub_mod (show PP ≤ A by rw [QB]; have := Hb.out; omega), Nat.mod_eq_of_lt (show A - PP < PP by rw [QB]; omega), QB]
       have := Hb.out; omega
      rw [hfin] at q3
      obtain ⟨Z', hZ', mz'⟩ := q1.other ⟨w1.heap.size, 3, none⟩ (.int .u64 u) (by simp <;> omega)
      have HBB := Lib.hid (below_setRow (hB3.setCell (p := ⟨w1.heap.size, 3, none⟩) (qh hB b1).size (.int .u64 u)) (w.heap.size + 1) (e4 r) (by omega))
      have Mz := Lib.hid mz; clear mz
      have HZ := Lib.hid hZ; clear hZ
      have Q2 := Lib.hid q2; clear q2
      have Q3 := Lib.hid q3; clear q3
      have Mz' := Lib.hid mz'; clear mz'
      have HZ' := Lib.hid hZ'; clear hZ'
      have Hfin := Lib.hid hfin; clear hfin
      have Ht := Lib.hid ht; clear ht
      clear n0 n1 hB2 hB3 b1 M0 M1 hc hov hu hrow
      go_wp2_with (first | (refine wpList_store_row rfl 36 _ _ rfl (w1.heap.size) _ rfl rfl 36 Z Mz.out (by rw [qd]; kernel_rfl) (HZ.out.trans (qd _).symm) (qp _ _ _) ?_) | (refine wpList_load_row rfl 36 _ rfl (w1.heap.size) rfl 36 (e4 r) (0, 0) _ Q3.out Try.underlying36 rfl (by rw [qd]; kernel_rfl) ?_) | (refine wpList_store_row rfl 36 _ _ rfl (w.heap.size + 1) _ rfl rfl 36 Z' Mz'.out (by rw [qd]; kernel_rfl) (HZ'.out.trans (qd _).symm) (qp _ _ _) ?_))
      exact bodyPost_ret (v := .agg (e4 r)) (results_cell_row (t := 36) (by rfl) _ _ (w.heap.size + 1) _ _ _ rfl (Mz'.out.setRow _) Try.underlying36 rfl (by rw [qd]; kernel_rfl)) rfl ⟨rfl, HBB.out⟩
end
section
open Go.RowKit Go.Lib
theorem key_byte (n k : Nat) : (n / 18446744073709551616 ^ (k / 8) % 18446744073709551616) / 2 ^ (8 * (k % 8)) % 256 = n / 256 ^ k % 256 := by
 have e : 256 ^ k = 18446744073709551616 ^ (k / 8) * 256 ^ (k % 8) := by
  rw [show (18446744073709551616 : Nat) = 256 ^ 8 by decide, ← Nat.pow_mul, ← Nat.pow_add, Nat.div_add_mod]
 rw [e, ← Nat.div_div_eq_div_mul]
 generalize n / 18446744073709551616 ^ (k / 8) = q
 have hr : k % 8 < 8 := Nat.mod_lt _ (by decide)
 generalize k % 8 = r at *
 rcases (show r = 0 ∨ r = 1 ∨ r = 2 ∨ r = 3 ∨ r = 4 ∨ r = 5 ∨ r = 6 ∨ r = 7 by omega) with rfl | rfl | rfl | rfl | rfl | rfl | rfl | rfl <;> simp <;> omega
theorem key_byte_int (n k : Nat) (x : Int) (hx : x = dg 18446744073709551616 n (k / 8)) : x / 2 ^ (8 * (k % 8)) % 256 = dg 256 n k := by
 rw [hx, dg, dg, ← key_byte n k]
 generalize n / 18446744073709551616 ^ (k / 8) % 18446744073709551616 = q
 generalize 8 * (k % 8) = m
 rw [Int.natCast_emod, Int.natCast_ediv, Int.natCast_pow]
 rfl
theorem and_one (a : Nat) (ha : a < 18446744073709551616) : bits .and .u64 (a : Int) 1 = ((a % 2 : Nat) : Int) := by
 have h := bits_and_u64_nat a 1 ha (by omega)
 have e : a &&& 1 = a % 2 := Nat.and_two_pow_sub_one_eq_mod a 1
 rw [e] at h
 exact h
theorem div_pow_bd64 (x : Int) (k : Nat) (h0 : 0 ≤ x) (h1 : x < 18446744073709551616) : 0 ≤ x / 2 ^ k ∧ x / 2 ^ k < 18446744073709551616 := by
 have hp : (0 : Int) < 2 ^ k := Int.pow_pos (by decide)
 refine ⟨Int.ediv_nonneg h0 (Int.le_of_lt hp), ?_⟩
 have := Int.ediv_le_self (2 ^ k) h0
 omega
theorem e4_eq (x y : Nat) (hx : x < 115792089237316195423570985008687907853269984665640564039457584007913129639936) (hy : y < 115792089237316195423570985008687907853269984665640564039457584007913129639936) (w : World) : (Op.equalIn 10000 36 (.agg (e4 x)) (.agg (e4 y))).run Try.prog w = .ok (decide (x = y)) w := by
 rw [← eqr_dg 18446744073709551616 4 x y (by rw [n64_4]; exact hx) (by rw [n64_4]; exact hy)]
 exact zR w 9998 36 34 4 .u64 Try.underlying36 Try.underlying34 sz_u64 _ _
theorem qbz (n : Nat) : n % PP < 115792089237316195423570985008687907853269984665640564039457584007913129639936 := Nat.lt_trans (Nat.mod_lt _ qH) (by decide +kernel)
theorem key_any (n : Nat) (hn : n < 115792089237316195423570985008687907853269984665640564039457584007913129639936) (w : World) :
 Calls Try.prog 73 #[.agg (e4 n)] w fun e w' => e = .returned (.agg (k32 (n % PP))) ∧ Below w.heap.size w w' := by
 have hl := fun w => Z4 n hn w
 obtain ⟨r, hr⟩ : ∃ r, r = n % PP := ⟨_, rfl⟩
 rw [← hr] at hl ⊢
 have Hl := Lib.hid hl; clear hl
 clear hr hn
 go_enter Try.func73, Try.ntmps73
 have M0 := Lib.hid ((Has.new w (e4 n) 36).alloc (.cells (#[.int .u8 0, .int .u8 0, .int .u8 0, .int .u8 0, .int .u8 0, .int .u8 0, .int .u8 0, .int .u8 0, .int .u8 0, .int .u8 0, .int .u8 0, .int .u8 0, .int .u8 0, .int .u8 0, .int .u8 0, .int .u8 0, .int .u8 0, .int .u8 0, .int .u8 0, .int .u8 0, .int .u8 0, .int .u8 0, .int .u8 0, .int .u8 0, .int .u8 0, .int .u8 0, .int .u8 0, .int .u8 0, .int .u8 0, .int .u8 0, .int .u8 0, .int .u8 0] : Array Value) 24))
 go_wp2_with (refine wpList_load_row rfl 36 _ rfl (w.heap.size) rfl 36 (e4 n) (0, 0) _ M0.out Try.underlying36 rfl (by rw [qd]; kernel_rfl) ?_)
 refine (Hl.out _).mono ?_
 rintro e w1 ⟨rfl, b1⟩
 obtain ⟨Z, hZ, mz⟩ := (M0.out.toN (qd _)).call b1
 have m1 := (Has.new1 w (.cells (e4 n) 36) (#[.int .u8 0, .int .u8 0, .int .u8 0, .int .u8 0, .int .u8 0, .int .u8 0, .int .u8 0, .int .u8 0, .int .u8 0, .int .u8 0, .int .u8 0, .int .u8 0, .int .u8 0, .int .u8 0, .int .u8 0, .int .u8 0, .int .u8 0, .int .u8 0, .int .u8 0, .int .u8 0, .int .u8 0, .int .u8 0, .int .u8 0, .int .u8 0, .int .u8 0, .int .u8 0, .int .u8 0, .int .u8 0, .int .u8 0, .int .u8 0, .int .u8 0, .int .u8 0] : Array Value) 24).call b1
 have q0 := mz.setRow (e4 r)
 have q1 := m1.setRow_other w.heap.size (e4 r) (by omega)
 have hB := below_setRow (qh (Qx w (.cells (e4 n) 36) (.cells (#[.int .u8 0, .int .u8 0, .int .u8 0, .int .u8 0, .int .u8 0, .int .u8 0, .int .u8 0, .int .u8 0, .int .u8 0, .int .u8 0, .int .u8 0, .int .u8 0, .int .u8 0, .int .u8 0, .int .u8 0, .int .u8 0, .int .u8 0, .int .u8 0, .int .u8 0, .int .u8 0, .int .u8 0, .int .u8 0, .int .u8 0, .int .u8 0, .int .u8 0, .int .u8 0, .int .u8 0, .int .u8 0, .int .u8 0, .int .u8 0, .int .u8 0, .int .u8 0] : Array Value) 24)) b1) w.heap.size (e4 r) (Nat.le_refl _)
 clear M0 m1 b1
 have Mz := Lib.hid mz; clear mz
 have HZ := Lib.hid hZ; clear hZ
 have Q0 := Lib.hid q0; clear q0
 have Q1 := Lib.hid q1; clear q1
 have HB := Lib.hid hB; clear hB
 go_wp2_with (refine wpList_store_row rfl 36 _ _ rfl (w.heap.size) _ rfl rfl 36 Z Mz.out (by rw [qd]; kernel_rfl) (HZ.out.trans (qd _).symm) (qp _ _ _) ?_)
 clear Mz HZ
 go_loopw [6] (fun i wr => ∃ (k : Nat) (h : Nat → Int), k ≤ 32 ∧ i = .int .i64 k ∧ (∀ j, j < k → h j = dg 256 r j) ∧ Has wr w.heap.size (e4 r) 36 ∧ Has wr (w.heap.size + 1) (row .u8 32 h) 24 ∧ Below w.heap.size w wr) (fun i _ => 32 - (intOf i).toNat)
 case atStart => exact ⟨0, fun _ => 0, by omega, rfl, fun j hj => by omega, Q0.out, Q1.out, HB.out⟩
 case round =>
  clear Q0 Q1 HB
  obtain ⟨k, h, hk, rfl, hh, m0, m1, hB⟩ := hrel
  have M0 := Lib.hid m0; clear m0
  have M1 := Lib.hid m1; clear m1
  have Hh := Lib.hid hh; clear hh
  by_cases hlt : k < 32
  · have h1 := M0.out.cell (k / 8) (by omega)
    have h2 := M1.out.cell k hlt
    have hfz := M1.out.frozen k
    have x0 := qbL r (k / 8)
    have x1 := qbh r (k / 8)
    obtain ⟨x, hx⟩ : ∃ x, x = dg 18446744073709551616 r (k / 8) := ⟨_, rfl⟩
    rw [← hx] at h1 x0 x1
    have hkb := key_byte_int r k x hx
    obtain ⟨s0, s1⟩ := div_pow_bd64 x (8 * (k % 8)) x0 x1
    have k2 : (0 : Int) ≤ (k : Int) / 8 := by omega
    have k3 : (k : Int) / 8 < 4 := by omega
    have k4 : (0 : Int) ≤ 8 * ((k : Int) % 8) := by omega
    have k5 : 8 * ((k : Int) % 8) < 64 := by omega
    have Hx := Lib.hid hx; clear hx
    have Hkb := Lib.hid hkb; clear hkb
    go_wp2_with fail
    go_roundw
    case measure => simp [intOf]; omega
    case rel =>
     refine ⟨k + 1, upd h k (x / 2 ^ (8 * (k % 8)) % 256), by omega, by go_num, ?_, M0.out.other _ _ (by simp <;> omega), M1.out.set _ _, hB.setCell (by simp <;> omega) _⟩
     intro j hj
     by_cases e : j = k
     · subst e; rw [qw]; exact Hkb.out
     · rw [qD _ _ _ _ e]; exact Hh.out j (by omega)
  · obtain rfl : k = 32 := by omega
    have m1 := M1.out
    rw [show row .u8 32 h = k32 r from Qb _ _ _ _ Hh.out] at m1
    have P1 := Lib.hid m1; clear m1 M1
    have P2 := Lib.hid (P1.out.setRow (k32 r))
    go_wp2_with (first | (refine wpList_load_row rfl 24 _ rfl (w.heap.size + 1) rfl 24 (k32 r) (0, 0) _ P1.out Try.underlying24 rfl (by rw [qf]; kernel_rfl) ?_) | (refine wpList_store_row rfl 24 _ _ rfl (w.heap.size + 1) _ rfl rfl 24 (k32 r) P1.out (by rw [qf]; kernel_rfl) rfl (qp _ _ _) ?_))
    exact bodyPost_ret (v := .agg (k32 r)) (results_cell_row (t := 24) (by rfl) _ _ (w.heap.size + 1) _ _ _ rfl P2.out Try.underlying24 rfl (by rw [qf]; kernel_rfl)) rfl ⟨rfl, below_setRow hB _ _ (by omega)⟩
theorem is_any (a b : Nat) (ha : a < 115792089237316195423570985008687907853269984665640564039457584007913129639936) (hb : b < 115792089237316195423570985008687907853269984665640564039457584007913129639936) (w : World) :
 Calls Try.prog 41 #[.agg (e4 a), .agg (e4 b)] w fun e w' => e = .returned (.bool (decide (a % PP = b % PP))) ∧ Below w.heap.size w w' := by
 have hl1 := fun w => Z4 a ha w
 have hl2 := fun w => Z4 b hb w
 have heq := fun w => e4_eq (a % PP) (b % PP) (qbz a) (qbz b) w
 obtain ⟨x, hx⟩ : ∃ r, r = a % PP := ⟨_, rfl⟩
 obtain ⟨y, hy⟩ : ∃ r, r = b % PP := ⟨_, rfl⟩
 rw [← hx] at hl1 heq ⊢
 rw [← hy] at hl2 heq ⊢
 have Hl1 := Lib.hid hl1; clear hl1
 have Hl2 := Lib.hid hl2; clear hl2
 obtain ⟨d, hd⟩ : ∃ d, d = decide (x = y) := ⟨_, rfl⟩
 rw [← hd] at heq ⊢
 clear hx hy ha hb hd
 go_enter Try.func41, Try.ntmps41
 go_wp2_with fail
 refine wp_region_noPanic ?_
 refine zg 99 (by kernel_rfl) ?_
 intro W0 hW0
 have M0 := Lib.hid (show Has W0 w.heap.size (e4 a) 36 by rw [hW0]; exact (Has.new _ _ _).alloc _)
 have M1 := Lib.hid (show Has W0 (w.heap.size + 1) (e4 b) 36 by rw [hW0]; exact Has.new1 _ _ _ _)
 have HB := Lib.hid (show Below w.heap.size w W0 by rw [hW0]; exact Qx _ _ _)
 clear hW0
 refine Qw (i := 0) rfl (by kernel_rfl) (by kernel_rfl) (by kernel_rfl) (by kernel_rfl) (by kernel_rfl) (fun _ _ _ h => h) (qj (by rfl) 36 _ rfl (w.heap.size) rfl 36 (e4 a) (fun _ h => M0.out.below h M0.out.lt) Try.underlying36 rfl (by rw [qd]; kernel_rfl)) ((Below.refl _ _).drew) ?_
 (try simp only [Act.put]); (try simp only [List.setIfInBounds_toArray])
 refine Qw (i := 2) rfl (by kernel_rfl) (by kernel_rfl) (by kernel_rfl) (by kernel_rfl) (by kernel_rfl) (fun _ _ _ h => h) (qj (by rfl) 36 _ rfl (w.heap.size + 1) rfl 36 (e4 b) (fun _ h => M1.out.below h M1.out.lt) Try.underlying36 rfl (by rw [qd]; kernel_rfl)) ((Below.refl _ _).drew) ?_
 (try simp only [Act.put]); (try simp only [List.setIfInBounds_toArray])
 refine qY (i := 1) (by kernel_rfl) rfl (fun K hK => ?_)
 go_simp
 go_at_call 79
 refine (Hl1.out _).mono ?_
 rintro e wW01 ⟨rfl, hb⟩
 have hkW01 := qh (Below.refl _ _).drew hb
 refine hK.out _ _ (fun _ => hkW01) ?_
 clear hK K hb
 refine qY (i := 3) (by kernel_rfl) rfl (fun K hK => ?_)
 go_simp
 go_at_call 79
 refine (Hl2.out _).mono ?_
 rintro e wW02 ⟨rfl, hb⟩
 have hkW02 := qh hkW01 hb
 refine hK.out _ _ (fun _ => hkW02) ?_
 clear hK K hb
 refine qY (i := 4) (by kernel_rfl) rfl (fun K hK => ?_)
 go_simp
 refine hK.out _ _ (fun _ => hkW02) ?_
 clear hK K
 refine qY (i := 5) (by kernel_rfl) rfl (fun K hK => ?_)
 go_simp
 refine hK.out _ _ (fun _ => hkW02) ?_
 clear hK K
 refine qu (by kernel_rfl) (NoPanic.normal ?_)
 go_wp2_with fail
 go_ret
 exact ⟨rfl, qh HB.out hkW02⟩
theorem qbE (a : Nat) (ha : a < 115792089237316195423570985008687907853269984665640564039457584007913129639936) (w : World) :
 Calls Try.prog 36 #[.agg (e4 a)] w fun e w' => e = .returned (.bool (a % PP % 2 == 0)) ∧ Below w.heap.size w w' := by
 have hl1 := fun w => Z4 a ha w
 have hlt := qbz a
 obtain ⟨x, hx⟩ : ∃ r, r = a % PP := ⟨_, rfl⟩
 rw [← hx] at hl1 hlt ⊢
 have hix := fun w => ze w 36 34 4 .u64 Try.underlying36 Try.underlying34 sz_u64 (dg 18446744073709551616 x) 0 (by omega)
 rw [show row .u64 4 (dg 18446744073709551616 x) = e4 x from rfl] at hix
 have hd0 : dg 18446744073709551616 x 0 = ((x % 18446744073709551616 : Nat) : Int) := by unfold dg; rw [Nat.pow_zero, Nat.div_one]
 rw [hd0] at hix
 have hand := and_one (x % 18446744073709551616) (Nat.mod_lt _ (by decide))
 have hm : x % 18446744073709551616 % 2 = x % 2 := by omega
 rw [hm] at hand
 obtain ⟨y, hy⟩ : ∃ y, y = x % 18446744073709551616 := ⟨_, rfl⟩
 rw [← hy] at hix hand
 rw [show (((0 : Nat) : Int)) = 0 from rfl] at hix
 have M0 := Lib.hid (Has.new w (e4 a) 36)
 have hres : ((((x % 2 : Nat) : Int)) == 0) = (x % 2 == 0) := by
  rcases Nat.mod_two_eq_zero_or_one x with e | e <;> rw [e] <;> rfl
 obtain ⟨z, hz⟩ : ∃ z : Int, z = ((x % 2 : Nat) : Int) := ⟨_, rfl⟩
 rw [← hz] at hand hres
 rw [← hres]
 have Hl1 := Lib.hid hl1; clear hl1
 have Hz := Lib.hid hz; clear hz
 have Hres := Lib.hid hres; clear hres
 clear hx hlt hd0 hm hy ha
 go_enter Try.func36, Try.ntmps36
 go_wp2_with (refine wpList_load_row rfl 36 _ rfl (w.heap.size) rfl 36 (e4 a) (0, 0) _ M0.out Try.underlying36 rfl (by rw [qd]; kernel_rfl) ?_)
 refine (Hl1.out _).mono ?_
 rintro e w1 ⟨rfl, b1⟩
 have HB := Lib.hid (qh (Qc w (.cells (e4 a) 36)) b1); clear b1
 go_wp2_with fail
 go_ret
 exact ⟨rfl, HB.out⟩
end
section
open Go.RowKit Go.Lib
theorem Z8 (n : Nat) (hn : n < 9223372036854775808) (w : World) :
 Calls Try.prog 34 #[.int .i64 n] w fun e w' => e = .returned (.agg (e4 n)) ∧ Below w.heap.size w w' := by
 have hbl := ZN n (by omega)
 obtain ⟨Z, hZ, mz⟩ := HasN.new w (#[.int .u64 0, .int .u64 0, .int .u64 0, .int .u64 0] : Array Value) 36 4 rfl
 have Mz := Lib.hid mz; clear mz
 have HZ := Lib.hid hZ; clear hZ
 go_enter Try.func34, Try.ntmps34
 go_wp2_with (refine wpList_store_row rfl 36 _ _ rfl (w.heap.size) _ rfl rfl 36 Z Mz.out (by rw [qd]; kernel_rfl) (HZ.out.trans (qd _).symm) (qp _ _ _) ?_)
 exact bodyPost_ret (v := .agg (e4 n)) (results_cell_row (t := 36) (by rfl) _ _ (w.heap.size) _ _ _ rfl (Mz.out.setRow _) Try.underlying36 rfl (by rw [qd]; kernel_rfl)) rfl ⟨rfl, below_setRow (Qc _ _) _ _ (Nat.le_refl _)⟩
theorem e4_zero : (#[.int .u64 0, .int .u64 0, .int .u64 0, .int .u64 0] : Array Value) = e4 0 := ZN 0 (by omega)
theorem e4_one : (#[.int .u64 1, .int .u64 0, .int .u64 0, .int .u64 0] : Array Value) = e4 1 := ZN 1 (by omega)
theorem fint_neg (n : Int) (hn : n < 0) (hn2 : -9223372036854775808 ≤ n) (w : World) :
 Calls Try.prog 34 #[.int .i64 n] w (ElP (n % (PP : Int)).toNat w) := by
 obtain ⟨m, hm⟩ : ∃ m : Nat, -(n + 1) = (m : Int) := ⟨(-(n + 1)).toNat, by omega⟩
 have hres := int_num n m (by omega)
 obtain ⟨r, hr⟩ : ∃ r, r = (n % (PP : Int)).toNat := ⟨_, rfl⟩
 rw [← hr] at hres ⊢
 have hm0 : m < 9223372036854775808 := by omega
 have hmin1 := fun w => zE 0 m (by omega) (by omega) w
 rw [show 0 % PP = 0 from Nat.zero_mod _] at hmin1
 obtain ⟨y, hy⟩ : ∃ y, y = (0 + (PP - m % PP)) % PP := ⟨_, rfl⟩
 rw [← hy] at hmin1 hres
 have hmin2 := fun m1 h w => zE m1 1 h (by omega) w
 have hbl := ZN m (by omega)
 have hb0 := e4_zero
 have hb1 := e4_one
 have Hmin1 := Lib.hid hmin1; clear hmin1
 have Hmin2 := Lib.hid hmin2; clear hmin2
 have Hres := Lib.hid hres; clear hres
 have Hm := Lib.hid hm; clear hm
 have Hbl := Lib.hid hbl; clear hbl
 have Hb0 := Lib.hid hb0; clear hb0
 have Hb1 := Lib.hid hb1; clear hb1
 clear hr hy hm0
 have hd : decide (0 ≤ n) = false := by simp; omega
 go_enter Try.func34, Try.ntmps34
 go_wp2_with fail
 rw [Hm.out, Hbl.out, Hb0.out]
 refine (Hmin1.out _).mono ?_
 rintro e w1 ⟨m1, hm1, hm1r, rfl, b1⟩
 have B1 := Lib.hid b1; clear b1
 have Hm1 := Lib.hid hm1; clear hm1
 have Hm1r := Lib.hid hm1r; clear hm1r
 go_wp2_with fail
 refine (Hmin2.out m1 Hm1.out _).mono ?_
 rintro e w2 ⟨m2, hm2, hm2r, rfl, b2⟩
 obtain ⟨Z, hZ, mz⟩ := ((HasN.new w (e4 0) 36 4 (qd _)).call B1.out).call b2
 have HBB := Lib.hid (below_setRow (qh (qh (Qc w (.cells (e4 0) 36)) B1.out) b2) w.heap.size (e4 m2) (Nat.le_refl _))
 have hfin : m2 % PP = r := by rw [hm2r, Hm1r.out]; exact Hres.out
 have Mz := Lib.hid mz; clear mz
 have HZ := Lib.hid hZ; clear hZ
 have Hm2 := Lib.hid hm2; clear hm2
 have Hfin := Lib.hid hfin; clear hfin
 clear hm2r b2
 go_wp2_with (refine wpList_store_row rfl 36 _ _ rfl (w.heap.size) _ rfl rfl 36 Z Mz.out (by rw [qd]; kernel_rfl) (HZ.out.trans (qd _).symm) (qp _ _ _) ?_)
 exact bodyPost_ret (v := .agg (e4 m2)) (results_cell_row (t := 36) (by rfl) _ _ (w.heap.size) _ _ _ rfl (Mz.out.setRow _) Try.underlying36 rfl (by rw [qd]; kernel_rfl)) rfl ⟨m2, Hm2.out, Hfin.out, rfl, HBB.out⟩
theorem sq_next (A a k : Nat) (h : A % PP = pwm a (2 ^ k)) : A * A % PP = pwm a (2 ^ (k + 1)) := by
 unfold pwm at *
 rw [Nat.mul_mod, h, ← Nat.mul_mod, ← Nat.pow_add, Nat.pow_succ, Nat.mul_two]
theorem QU (a n : Nat) (ha : a < 115792089237316195423570985008687907853269984665640564039457584007913129639936) (hn : n ≤ 1000) (w : World) :
 Calls Try.prog 83 #[.agg (e4 a), .int .i64 n] w (ElP (pwm a (2 ^ n)) w) := by
 have ht := fun x h w => qL x x h h w
 have h0 : a % PP = pwm a (2 ^ 0) := by unfold pwm; rw [Nat.pow_zero, Nat.pow_one]
 have Ht := Lib.hid ht; clear ht
 have Ha := Lib.hid ha; clear ha
 have H0 := Lib.hid h0; clear h0
 go_enter Try.func83, Try.ntmps83
 go_wp2_with fail
 go_loopw [6] (fun i wr => ∃ k A : Nat, k ≤ n ∧ i = .int .i64 k ∧ A < 115792089237316195423570985008687907853269984665640564039457584007913129639936 ∧ A % PP = pwm a (2 ^ k) ∧ Has wr w.heap.size (e4 A) 36 ∧ HasN wr (w.heap.size + 1) 4 36 ∧ Below w.heap.size w wr) (fun i _ => n - (intOf i).toNat)
 case atStart => exact ⟨0, a, by omega, rfl, Ha.out, H0.out, (Has.new _ _ _).alloc _, HasN.new1 _ _ _ _ 4 rfl, Qx _ _ _⟩
 case round =>
  obtain ⟨k, A, hk, rfl, hA, hm, m0, m1, hB⟩ := hrel
  have M0 := Lib.hid m0; clear m0
  have M1 := Lib.hid m1; clear m1
  have HA := Lib.hid hA; clear hA
  have Hm := Lib.hid hm; clear hm
  by_cases hlt : k < n
  · go_wp2_with (refine wpList_load_row rfl 36 _ rfl (w.heap.size) rfl 36 (e4 A) (0, 0) _ M0.out Try.underlying36 rfl (by rw [qd]; kernel_rfl) ?_)
    refine (Ht.out A HA.out _).mono ?_
    rintro e w1 ⟨m, hm', hmr, rfl, b1⟩
    obtain ⟨Z, hZ, mz⟩ := (M0.out.toN (qd _)).call b1
    have q0 := mz.setRow (e4 m)
    have q1 := (M1.out.call b1).setRow_other w.heap.size (e4 m) (by omega)
    have hB2 := below_setRow (qh hB b1) w.heap.size (e4 m) (Nat.le_refl _)
    have hmr2 := hmr.trans (sq_next A a k Hm.out)
    have Mz := Lib.hid mz; clear mz
    have HZ := Lib.hid hZ; clear hZ
    have Q0 := Lib.hid q0; clear q0
    have Q1 := Lib.hid q1; clear q1
    have HB2 := Lib.hid hB2; clear hB2
    have Hm' := Lib.hid hm'; clear hm'
    have Hmr2 := Lib.hid hmr2; clear hmr2
    clear b1 hmr M0 M1
    go_wp2_with (refine wpList_store_row rfl 36 _ _ rfl (w.heap.size) _ rfl rfl 36 Z Mz.out (by rw [qd]; kernel_rfl) (HZ.out.trans (qd _).symm) (qp _ _ _) ?_)
    go_roundw
    case measure => simp [intOf]; omega
    case rel => exact ⟨k + 1, m, by omega, by go_num, Hm'.out, Hmr2.out, Q0.out, Q1.out, HB2.out⟩
  · obtain rfl : k = n := by omega
    obtain ⟨Z, hZ, mz⟩ := M1.out
    have HBB := Lib.hid (below_setRow hB (w.heap.size + 1) (e4 A) (by omega))
    have Mz := Lib.hid mz; clear mz
    have HZ := Lib.hid hZ; clear hZ
    go_wp2_with (first | (refine wpList_load_row rfl 36 _ rfl (w.heap.size) rfl 36 (e4 A) (0, 0) _ M0.out Try.underlying36 rfl (by rw [qd]; kernel_rfl) ?_) | (refine wpList_store_row rfl 36 _ _ rfl (w.heap.size + 1) _ rfl rfl 36 Z Mz.out (by rw [qd]; kernel_rfl) (HZ.out.trans (qd _).symm) (qp _ _ _) ?_))
    exact bodyPost_ret (v := .agg (e4 A)) (results_cell_row (t := 36) (by rfl) _ _ (w.heap.size + 1) _ _ _ rfl (Mz.out.setRow _) Try.underlying36 rfl (by rw [qd]; kernel_rfl)) rfl ⟨A, HA.out, Hm.out, rfl, HBB.out⟩
theorem pwm_mul (a e A B : Nat) (hA : A % PP = pwm a e) (hB : B % PP = a % PP) : A * B % PP = pwm a (e + 1) := by
 unfold pwm at *
 rw [Nat.mul_mod, hA, hB, ← Nat.mul_mod, Nat.pow_succ]
theorem Zp (a n : Nat) (ha : a < 115792089237316195423570985008687907853269984665640564039457584007913129639936) (hn : n ≤ 1000) (w : World) :
 Calls Try.prog 110 #[.agg (e4 a), .int .i64 n] w (ElP (pwm a (2 ^ n + 1)) w) := by
 have hs := fun w => QU a n ha hn w
 have ht := fun x h w => qL x a h ha w
 have Hs := Lib.hid hs; clear hs
 have Ht := Lib.hid ht; clear ht
 clear ha hn
 go_enter Try.func110, Try.ntmps110
 go_wp2_with fail
 refine wp_region_noPanic ?_
 refine zg 5 (by kernel_rfl) ?_
 intro W0 hW0
 have M0 := Lib.hid (show Has W0 w.heap.size (e4 a) 36 by rw [hW0]; exact (Has.new _ _ _).alloc _)
 have M1 := Lib.hid (show HasN W0 (w.heap.size + 1) 4 36 by rw [hW0]; exact HasN.new1 _ _ _ _ 4 rfl)
 have HB := Lib.hid (show Below w.heap.size w W0 by rw [hW0]; exact Qx _ _ _)
 clear hW0
 refine Qw (i := 0) rfl (by kernel_rfl) (by kernel_rfl) (by kernel_rfl) (by kernel_rfl) (by kernel_rfl) (fun _ _ _ h => h) (qj (by rfl) 36 _ rfl (w.heap.size) rfl 36 (e4 a) (fun _ h => M0.out.below h M0.out.lt) Try.underlying36 rfl (by rw [qd]; kernel_rfl)) ((Below.refl _ _).drew) ?_
 (try simp only [Act.put]); (try simp only [List.setIfInBounds_toArray])
 refine Qw (i := 1) (v := ?vv1) rfl (by kernel_rfl) (by kernel_rfl) (by kernel_rfl) (by kernel_rfl) (by kernel_rfl) (fun _ _ _ h => h) (Or.inl ⟨by rfl, ?hy1⟩) ((Below.refl _ _).drew) ?rest1
 case hy1 => (intro _ _; go_simp; try with_reducible rfl)
 (try simp only [Act.put]); (try simp only [List.setIfInBounds_toArray])
 refine Qw (i := 3) rfl (by kernel_rfl) (by kernel_rfl) (by kernel_rfl) (by kernel_rfl) (by kernel_rfl) (fun _ _ _ h => h) (qj (by rfl) 36 _ rfl (w.heap.size) rfl 36 (e4 a) (fun _ h => M0.out.below h M0.out.lt) Try.underlying36 rfl (by rw [qd]; kernel_rfl)) ((Below.refl _ _).drew) ?_
 (try simp only [Act.put]); (try simp only [List.setIfInBounds_toArray])
 refine qY (i := 2) (by kernel_rfl) rfl (fun K hK => ?_)
 go_simp
 go_at_call 83
 refine (Hs.out _).mono ?_
 rintro e wW01 ⟨m1, hm1, hm1r, rfl, hb⟩
 have hkW01 := qh (Below.refl _ _).drew hb
 refine hK.out _ _ (fun _ => hkW01) ?_
 clear hK K hb
 refine qY (i := 4) (by kernel_rfl) rfl (fun K hK => ?_)
 go_simp
 go_at_call 31
 refine (Ht.out m1 hm1 _).mono ?_
 rintro e wW02 ⟨m2, hm2, hm2r, rfl, hb⟩
 have hkW02 := qh hkW01 hb
 refine hK.out _ _ (fun _ => hkW02) ?_
 clear hK K hb
 obtain ⟨Z, hZ, mZ⟩ := M1.out.below hkW02 M1.out.lt
 have MZ := Lib.hid mZ; clear mZ
 have HZ := Lib.hid hZ; clear hZ
 refine qY (i := 5) (by kernel_rfl) rfl (fun K hK => ?_)
 rw [if_pos (by rfl)]
 refine wp_store_row 36 _ _ rfl (w.heap.size + 1) _ rfl rfl 36 Z MZ.out (by rw [qd]; kernel_rfl) (HZ.out.trans (qd _).symm) (qp _ _ _) ?_
 refine hK.out _ _ (fun h => (h rfl).elim) ?_
 clear hK K
 (try simp only [Act.put]); (try simp only [List.setIfInBounds_toArray])
 refine qu (by kernel_rfl) (NoPanic.normal ?_)
 have hfin := hm2r.trans (pwm_mul a _ m1 a hm1r rfl)
 have HBB := Lib.hid (below_setRow (qh HB.out hkW02) (w.heap.size + 1) (e4 m2) (by omega))
 have Hfin := Lib.hid hfin; clear hfin
 go_wp2_with fail
 exact bodyPost_ret (v := .agg (e4 m2)) (results_cell_row (t := 36) (by rfl) _ _ (w.heap.size + 1) _ _ _ rfl (MZ.out.setRow _) Try.underlying36 rfl (by rw [qd]; kernel_rfl)) rfl ⟨m2, hm2, Hfin.out, rfl, HBB.out⟩
end
section
theorem qbq (a e f : Nat) : pwm a (e + f) = pwm a e * pwm a f % PP := by
 unfold pwm; rw [Nat.pow_add, Nat.mul_mod]
theorem pwm_succ (a e : Nat) : pwm a (e + 1) = pwm a e * a % PP := by
 unfold pwm; rw [Nat.pow_succ, Nat.mod_mul_mod]
theorem pwm_pwm (a e f : Nat) : pwm (pwm a e) f = pwm a (e * f) := by
 unfold pwm; rw [← Nat.pow_mod, Nat.pow_mul]
theorem ZU (a e : Nat) : pwm (a % PP) e = pwm a e := by
 unfold pwm; rw [← Nat.pow_mod]
theorem pwm_mulbase (a b e : Nat) : pwm (a * b) e = pwm a e * pwm b e % PP := by
 unfold pwm; rw [Nat.mul_pow, Nat.mul_mod]
theorem pwm_one (a : Nat) : pwm a 1 = a % PP := by unfold pwm; rw [Nat.pow_one]
theorem gen_PP : Nm.Gen PP 2 := Nm.gen_P
theorem pr_PP : Nm.Pr PP := Nm.pr_P
theorem little (a : Nat) (ha : a % PP ≠ 0) : pwm a (PP - 1) = 1 := gen_PP.little a ha
theorem over_undoes (u v : Nat) (hv : v % PP ≠ 0) : u * pwm v (PP - 2) % PP * v % PP = u % PP := by
 have h : pwm v (PP - 2) * v % PP = 1 := by
  rw [← pwm_succ]
  have e : PP - 2 + 1 = PP - 1 := by have := QB; omega
  rw [e]; exact little v hv
 rw [Nat.mod_mul_mod, Nat.mul_assoc, ← Nat.mul_mod_mod, h, Nat.mul_one]
theorem qbx (a b : Nat) (h : a * b % PP = 0) : a % PP = 0 ∨ b % PP = 0 := by
 rcases pr_PP.2 a b (Nat.dvd_of_mod_eq_zero h) with h | h
 · exact .inl (Nat.mod_eq_zero_of_dvd h)
 · exact .inr (Nat.mod_eq_zero_of_dvd h)
theorem sq_eq (x y : Nat) (hx : x < PP) (hy : y < PP) (h : x * x % PP = y * y % PP) : x = y ∨ (x + y) % PP = 0 := by
 by_cases hxy : x ≤ y
 · obtain ⟨d, rfl⟩ : ∃ d, y = x + d := ⟨y - x, by omega⟩
   have e : (x + d) * (x + d) = x * x + d * (x + (x + d)) := by grind
   rw [e] at h
   have h2 : d * (x + (x + d)) % PP = 0 := by
    have h1 := Nat.div_add_mod (x * x) PP
    have h3 := Nat.div_add_mod (x * x + d * (x + (x + d))) PP
    rw [← h] at h3
    have : PP * ((x * x + d * (x + (x + d))) / PP) = PP * (x * x / PP) + d * (x + (x + d)) := by omega
    have hd : PP ∣ d * (x + (x + d)) := by
     refine (Nat.dvd_add_right (Nat.dvd_mul_right PP (x * x / PP))).1 ?_
     rw [← this]; exact Nat.dvd_mul_right _ _
    exact Nat.mod_eq_zero_of_dvd hd
   rcases qbx _ _ h2 with h4 | h4
   · rw [Nat.mod_eq_of_lt (by omega)] at h4; left; omega
   · exact .inr h4
 · obtain ⟨d, rfl⟩ : ∃ d, x = y + d := ⟨x - y, by omega⟩
   have e : (y + d) * (y + d) = y * y + d * (y + (y + d)) := by grind
   rw [e] at h
   have h2 : d * (y + (y + d)) % PP = 0 := by
    have h1 := Nat.div_add_mod (y * y) PP
    have h3 := Nat.div_add_mod (y * y + d * (y + (y + d))) PP
    rw [h] at h3
    have : PP * ((y * y + d * (y + (y + d))) / PP) = PP * (y * y / PP) + d * (y + (y + d)) := by omega
    have hd : PP ∣ d * (y + (y + d)) := by
     refine (Nat.dvd_add_right (Nat.dvd_mul_right PP (y * y / PP))).1 ?_
     rw [← this]; exact Nat.dvd_mul_right _ _
    exact Nat.mod_eq_zero_of_dvd hd
   rcases qbx _ _ h2 with h4 | h4
   · rw [Nat.mod_eq_of_lt (by omega)] at h4; left; omega
   · right; rw [Nat.add_comm]; exact h4
theorem mo_add_l (x x' y : Nat) (h : x % PP = x' % PP) : (x + y) % PP = (x' + y) % PP := by rw [Nat.add_mod, h, ← Nat.add_mod]
theorem mo_mul_l (x x' y : Nat) (h : x % PP = x' % PP) : (x * y) % PP = (x' * y) % PP := by rw [Nat.mul_mod, h, ← Nat.mul_mod]
end
section
open Go.RowKit Go.Lib
theorem ZK (a x k e m f : Nat) (hx : x % PP = pwm a k) (hm : m % PP = pwm x e) (hf : k * e = f) : m % PP = pwm a f := by
 rw [hm, ← ZU, hx, pwm_pwm, hf]
theorem qa2 (a x y k e m f : Nat) (hx : x % PP = pwm a k) (hy : y % PP = pwm a e) (hm : m % PP = x * y % PP) (hf : k + e = f) : m % PP = pwm a f := by
 rw [hm, Nat.mul_mod, hx, hy, ← qbq, hf]
theorem qbr (a : Nat) : a % PP = pwm a 1 := (pwm_one a).symm
theorem qcV (a m1 m2 m3 m4 : Nat) (h1 : m1 % PP = pwm a 3) (h2 : m2 % PP = pwm m1 5) (h3 : m3 % PP = pwm m2 2) (h4 : m4 % PP = m3 * a % PP) : m4 % PP = pwm a 31 :=
 qa2 a m3 a 30 1 m4 31 (ZK a m2 15 2 m3 30 (ZK a m1 3 5 m2 15 h1 h2 rfl) h3 rfl) (qbr a) h4 rfl
theorem qcn (a m6 m7 m8 m5 m9 : Nat) (h6 : m6 % PP = pwm a 1048575) (h5 : m5 % PP = pwm a 1023) (h7 : m7 % PP = pwm m6 1048577) (h8 : m8 % PP = pwm m7 1024) (h9 : m9 % PP = m8 * m5 % PP) : m9 % PP = pwm a 1125899906842623 :=
 qa2 a m8 m5 1125899906841600 1023 m9 _ (ZK a m7 1099511627775 1024 m8 _ (ZK a m6 1048575 1048577 m7 _ h6 h7 (by decide +kernel)) h8 (by decide +kernel)) h5 h9 (by decide +kernel)
theorem p_all (a m10 m11 m12 m9 m13 : Nat) (h10 : m10 % PP = pwm a 1267650600228229401496703205375) (h9 : m9 % PP = pwm a 1125899906842623) (h11 : m11 % PP = pwm m10 1267650600228229401496703205377) (h12 : m12 % PP = pwm m11 1125899906842624) (h13 : m13 % PP = m12 * m9 % PP) : m13 % PP = pwm a 1809251394333065553493296640760748560207343510400633813116524750123642650623 :=
 qa2 a m12 m9 1809251394333065553493296640760748560207343510400633813116523624223735808000 1125899906842623 m13 _ (ZK a m11 1606938044258990275541962092341162602522202993782792835301375 1125899906842624 m12 _ (ZK a m10 1267650600228229401496703205375 1267650600228229401496703205377 m11 _ h10 h11 (by decide +kernel)) h12 (by decide +kernel)) h9 h13 (by decide +kernel)
theorem grow_1 (x : Nat) (hx : x < 115792089237316195423570985008687907853269984665640564039457584007913129639936) (w : World) : Calls Try.prog 110 #[.agg (e4 x), .int .i64 1] w (ElP (pwm x 3) w) := by
 have h := Zp x 1 hx (by decide) w
 rw [show 2 ^ 1 + 1 = 3 by decide +kernel] at h
 exact h
theorem grow_2 (x : Nat) (hx : x < 115792089237316195423570985008687907853269984665640564039457584007913129639936) (w : World) : Calls Try.prog 110 #[.agg (e4 x), .int .i64 2] w (ElP (pwm x 5) w) := by
 have h := Zp x 2 hx (by decide) w
 rw [show 2 ^ 2 + 1 = 5 by decide +kernel] at h
 exact h
theorem grow_5 (x : Nat) (hx : x < 115792089237316195423570985008687907853269984665640564039457584007913129639936) (w : World) : Calls Try.prog 110 #[.agg (e4 x), .int .i64 5] w (ElP (pwm x 33) w) := by
 have h := Zp x 5 hx (by decide) w
 rw [show 2 ^ 5 + 1 = 33 by decide +kernel] at h
 exact h
theorem grow_10 (x : Nat) (hx : x < 115792089237316195423570985008687907853269984665640564039457584007913129639936) (w : World) : Calls Try.prog 110 #[.agg (e4 x), .int .i64 10] w (ElP (pwm x 1025) w) := by
 have h := Zp x 10 hx (by decide) w
 rw [show 2 ^ 10 + 1 = 1025 by decide +kernel] at h
 exact h
theorem grow_20 (x : Nat) (hx : x < 115792089237316195423570985008687907853269984665640564039457584007913129639936) (w : World) : Calls Try.prog 110 #[.agg (e4 x), .int .i64 20] w (ElP (pwm x 1048577) w) := by
 have h := Zp x 20 hx (by decide) w
 rw [show 2 ^ 20 + 1 = 1048577 by decide +kernel] at h
 exact h
theorem grow_50 (x : Nat) (hx : x < 115792089237316195423570985008687907853269984665640564039457584007913129639936) (w : World) : Calls Try.prog 110 #[.agg (e4 x), .int .i64 50] w (ElP (pwm x 1125899906842625) w) := by
 have h := Zp x 50 hx (by decide) w
 rw [show 2 ^ 50 + 1 = 1125899906842625 by decide +kernel] at h
 exact h
theorem grow_100 (x : Nat) (hx : x < 115792089237316195423570985008687907853269984665640564039457584007913129639936) (w : World) : Calls Try.prog 110 #[.agg (e4 x), .int .i64 100] w (ElP (pwm x 1267650600228229401496703205377) w) := by
 have h := Zp x 100 hx (by decide) w
 rw [show 2 ^ 100 + 1 = 1267650600228229401496703205377 by decide +kernel] at h
 exact h
theorem z4 (x : Nat) (hx : x < 115792089237316195423570985008687907853269984665640564039457584007913129639936) (w : World) : Calls Try.prog 83 #[.agg (e4 x), .int .i64 1] w (ElP (pwm x 2) w) := by
 have h := QU x 1 hx (by decide) w
 rw [show 2 ^ 1 = 2 by decide +kernel] at h
 exact h
theorem qaG (x : Nat) (hx : x < 115792089237316195423570985008687907853269984665640564039457584007913129639936) (w : World) : Calls Try.prog 83 #[.agg (e4 x), .int .i64 2] w (ElP (pwm x 4) w) := by
 have h := QU x 2 hx (by decide) w
 rw [show 2 ^ 2 = 4 by decide +kernel] at h
 exact h
theorem squares_3 (x : Nat) (hx : x < 115792089237316195423570985008687907853269984665640564039457584007913129639936) (w : World) : Calls Try.prog 83 #[.agg (e4 x), .int .i64 3] w (ElP (pwm x 8) w) := by
 have h := QU x 3 hx (by decide) w
 rw [show 2 ^ 3 = 8 by decide +kernel] at h
 exact h
theorem squares_5 (x : Nat) (hx : x < 115792089237316195423570985008687907853269984665640564039457584007913129639936) (w : World) : Calls Try.prog 83 #[.agg (e4 x), .int .i64 5] w (ElP (pwm x 32) w) := by
 have h := QU x 5 hx (by decide) w
 rw [show 2 ^ 5 = 32 by decide +kernel] at h
 exact h
theorem qa6 (x : Nat) (hx : x < 115792089237316195423570985008687907853269984665640564039457584007913129639936) (w : World) : Calls Try.prog 83 #[.agg (e4 x), .int .i64 10] w (ElP (pwm x 1024) w) := by
 have h := QU x 10 hx (by decide) w
 rw [show 2 ^ 10 = 1024 by decide +kernel] at h
 exact h
theorem squares_50 (x : Nat) (hx : x < 115792089237316195423570985008687907853269984665640564039457584007913129639936) (w : World) : Calls Try.prog 83 #[.agg (e4 x), .int .i64 50] w (ElP (pwm x 1125899906842624) w) := by
 have h := QU x 50 hx (by decide) w
 rw [show 2 ^ 50 = 1125899906842624 by decide +kernel] at h
 exact h
theorem ent30 : _root_.Go.Enters Try.prog 30 := ⟨_, Try.func30, by kernel_rfl, by kernel_rfl⟩
theorem qbF : _root_.Go.Enters Try.prog 31 := ⟨_, Try.func31, by kernel_rfl, by kernel_rfl⟩
theorem ent33 : _root_.Go.Enters Try.prog 33 := ⟨_, Try.func33, by kernel_rfl, by kernel_rfl⟩
theorem qdS : _root_.Go.Enters Try.prog 34 := ⟨_, Try.func34, by kernel_rfl, by kernel_rfl⟩
theorem ent36 : _root_.Go.Enters Try.prog 36 := ⟨_, Try.func36, by kernel_rfl, by kernel_rfl⟩
theorem ent37 : _root_.Go.Enters Try.prog 37 := ⟨_, Try.func37, by kernel_rfl, by kernel_rfl⟩
theorem qdR : _root_.Go.Enters Try.prog 38 := ⟨_, Try.func38, by kernel_rfl, by kernel_rfl⟩
theorem ent39 : _root_.Go.Enters Try.prog 39 := ⟨_, Try.func39, by kernel_rfl, by kernel_rfl⟩
theorem ent40 : _root_.Go.Enters Try.prog 40 := ⟨_, Try.func40, by kernel_rfl, by kernel_rfl⟩
theorem ent42 : _root_.Go.Enters Try.prog 42 := ⟨_, Try.func42, by kernel_rfl, by kernel_rfl⟩
theorem ent43 : _root_.Go.Enters Try.prog 43 := ⟨_, Try.func43, by kernel_rfl, by kernel_rfl⟩
theorem ent73 : _root_.Go.Enters Try.prog 73 := ⟨_, Try.func73, by kernel_rfl, by kernel_rfl⟩
theorem ent74 : _root_.Go.Enters Try.prog 74 := ⟨_, Try.func74, by kernel_rfl, by kernel_rfl⟩
theorem ent83 : _root_.Go.Enters Try.prog 83 := ⟨_, Try.func83, by kernel_rfl, by kernel_rfl⟩
theorem ent84 : _root_.Go.Enters Try.prog 84 := ⟨_, Try.func84, by kernel_rfl, by kernel_rfl⟩
end
section
open Go.RowKit Go.Sx
theorem ep {g : FuncId} {vs : Array Value} {r : Nat} {w : World} (h : Calls Try.prog g vs w (ElP r w)) : Calls Try.prog g vs w fun e w' => ∃ m : Nat, (m < 115792089237316195423570985008687907853269984665640564039457584007913129639936 ∧ m % PP = r) ∧ e = .returned (.agg (e4 m)) ∧ Below w.heap.size w w' :=
 h.mono fun _ _ ⟨m, h1, h2, h3, h4⟩ => ⟨m, ⟨h1, h2⟩, h3, h4⟩
abbrev pv (b : Nat) : Value := .pointer (some ⟨b, 0, none⟩)
theorem QC (n : Nat) : (e4 n).toList.all (·.oneCell') = true := by unfold e4 row; exact List.all_eq_true.2 fun v hv => Ze _ _ _ v hv
theorem qaK (a : Nat) (ha : a < 115792089237316195423570985008687907853269984665640564039457584007913129639936) (w : World) :
 Calls Try.prog 84 #[.agg (e4 a)] w (ElP (pwm a 1809251394333065553493296640760748560207343510400633813116524750123642650623) w) := by
 refine (enter (R := fun v w' => ∃ m : Nat, m < 115792089237316195423570985008687907853269984665640564039457584007913129639936 ∧ m % PP = pwm a 1809251394333065553493296640760748560207343510400633813116524750123642650623 ∧ v = .agg (e4 m) ∧ Below w.heap.size w w') qi Try.func84 rfl Try.ntmps84 rfl (St.start w) (vs := [.agg (e4 a)]) ?_).mono (fun e w' ⟨v, he, m, h1, h2, h3, h4⟩ => ⟨m, h1, h2, by rw [he, h3], h4⟩)
 intro b1 b2
 refine cut (α := Nat × Nat) (fun x => x.2 < 115792089237316195423570985008687907853269984665640564039457584007913129639936 ∧ x.2 % PP = pwm a 31) (fun x => ⟨[(1, pv b1), (2, pv b2), (3, .func (.func 110) #[] #[]), (4, pv x.1)], [cl b1 (e4 a) 36, cl b2 #[.int .u64 0, .int .u64 0, .int .u64 0, .int .u64 0] 36, cl x.1 (e4 x.2) 36], []⟩) ?_ ?_
 · refine drs [cl b1 (e4 a) 36] [] (.t 0 (.t 1 (.t 2 (.t 6 (.b 3 8 (.b 4 8 (.b 5 8 (.b 7 8 (.n 8 (.n 9 .nil)) (.n 7 (.n 9 .nil))) (.n 5 (.n 7 (.n 9 .nil)))) (.n 4 (.n 5 (.n 7 (.n 9 .nil))))) (.n 3 (.n 4 (.n 5 (.n 7 (.n 9 .nil)))))))))) qi qq (by kernel_rfl) (.cons .nil) ?_
   refine ldN 0 rfl (qd _) ?_
   refine ldN 0 rfl (qd _) ?_
   refine ⟨?_, ?_⟩
   · refine ce (fun w _ => ep (grow_1 a ha w)) (fun m1 hm1 => ?_)
     refine ⟨.cons .nil, ?_⟩
     refine ⟨?_, ?_⟩
     · refine ce (fun w _ => ep (grow_2 m1 hm1.1 w)) (fun m2 hm2 => ?_)
       refine ⟨.cons .nil, ?_⟩
       refine ⟨?_, ?_⟩
       · refine ce (fun w _ => ep (z4 m2 hm2.1 w)) (fun m3 hm3 => ?_)
         refine ⟨.cons .nil, ?_⟩
         refine ⟨?_, ?_⟩
         · refine ce (fun w _ => ep (qL m3 a hm3.1 ha w)) (fun m4 hm4 => ?_)
           refine ⟨.cons .nil, ?_⟩
           intro b4
           refine ⟨.cons .nil, ?_⟩
           refine sN 2 rfl (by rw [qd]; rfl) (QC _) ?_ (by kernel_rfl)
           refine ⟨.cons .nil, ?_⟩
           exact ⟨(b4, m4), ⟨hm4.1, qcV a m1 m2 m3 m4 hm1.2 hm2.2 hm3.2 hm4.2⟩, ⟨rfl, rfl, rfl, rfl, trivial⟩, .refl _, rfl⟩
         · intro b4
           refine ⟨.cons .nil, ?_⟩
           refine ce (fun w _ => ep (qL m3 a hm3.1 ha w)) (fun m4 hm4 => ?_)
           refine ⟨.cons .nil, ?_⟩
           refine sN 2 rfl (by rw [qd]; rfl) (QC _) ?_ (by kernel_rfl)
           refine ⟨.cons .nil, ?_⟩
           exact ⟨(b4, m4), ⟨hm4.1, qcV a m1 m2 m3 m4 hm1.2 hm2.2 hm3.2 hm4.2⟩, ⟨rfl, rfl, rfl, rfl, trivial⟩, .refl _, rfl⟩
       · intro b4
         refine ⟨.cons .nil, ?_⟩
         refine ce (fun w _ => ep (z4 m2 hm2.1 w)) (fun m3 hm3 => ?_)
         refine ⟨.cons .nil, ?_⟩
         refine ce (fun w _ => ep (qL m3 a hm3.1 ha w)) (fun m4 hm4 => ?_)
         refine ⟨.cons .nil, ?_⟩
         refine sN 2 rfl (by rw [qd]; rfl) (QC _) ?_ (by kernel_rfl)
         refine ⟨.cons .nil, ?_⟩
         exact ⟨(b4, m4), ⟨hm4.1, qcV a m1 m2 m3 m4 hm1.2 hm2.2 hm3.2 hm4.2⟩, ⟨rfl, rfl, rfl, rfl, trivial⟩, .refl _, rfl⟩
     · intro b4
       refine ⟨.cons .nil, ?_⟩
       refine ce (fun w _ => ep (grow_2 m1 hm1.1 w)) (fun m2 hm2 => ?_)
       refine ⟨.cons .nil, ?_⟩
       refine ce (fun w _ => ep (z4 m2 hm2.1 w)) (fun m3 hm3 => ?_)
       refine ⟨.cons .nil, ?_⟩
       refine ce (fun w _ => ep (qL m3 a hm3.1 ha w)) (fun m4 hm4 => ?_)
       refine ⟨.cons .nil, ?_⟩
       refine sN 2 rfl (by rw [qd]; rfl) (QC _) ?_ (by kernel_rfl)
       refine ⟨.cons .nil, ?_⟩
       exact ⟨(b4, m4), ⟨hm4.1, qcV a m1 m2 m3 m4 hm1.2 hm2.2 hm3.2 hm4.2⟩, ⟨rfl, rfl, rfl, rfl, trivial⟩, .refl _, rfl⟩
   · intro b4
     refine ⟨.cons .nil, ?_⟩
     refine ce (fun w _ => ep (grow_1 a ha w)) (fun m1 hm1 => ?_)
     refine ⟨.cons .nil, ?_⟩
     refine ce (fun w _ => ep (grow_2 m1 hm1.1 w)) (fun m2 hm2 => ?_)
     refine ⟨.cons .nil, ?_⟩
     refine ce (fun w _ => ep (z4 m2 hm2.1 w)) (fun m3 hm3 => ?_)
     refine ⟨.cons .nil, ?_⟩
     refine ce (fun w _ => ep (qL m3 a hm3.1 ha w)) (fun m4 hm4 => ?_)
     refine ⟨.cons .nil, ?_⟩
     refine sN 2 rfl (by rw [qd]; rfl) (QC _) ?_ (by kernel_rfl)
     refine ⟨.cons .nil, ?_⟩
     exact ⟨(b4, m4), ⟨hm4.1, qcV a m1 m2 m3 m4 hm1.2 hm2.2 hm3.2 hm4.2⟩, ⟨rfl, rfl, rfl, rfl, trivial⟩, .refl _, rfl⟩
 · rintro ⟨b4, m4⟩ ⟨hm4, hk4⟩
   dsimp only at hm4 hk4 ⊢
   refine ldN 2 rfl (qd _) ?_
   refine ce (fun w _ => ep (grow_5 m4 hm4 w)) (fun m5 hm5 => ?_)
   have hk5 := ZK a m4 31 33 m5 1023 hk4 hm5.2 rfl
   intro b5
   refine sN 3 rfl (by rw [qd]; rfl) (QC _) ?_ (by kernel_rfl)
   refine ldN 3 rfl (qd _) ?_
   refine ce (fun w _ => ep (grow_10 m5 hm5.1 w)) (fun m6 hm6 => ?_)
   have hk6 := ZK a m5 1023 1025 m6 1048575 hk5 hm6.2 (by decide +kernel)
   intro b6
   refine sN 4 rfl (by rw [qd]; rfl) (QC _) ?_ (by kernel_rfl)
   refine cut (α := Nat × Nat) (fun x => x.2 < 115792089237316195423570985008687907853269984665640564039457584007913129639936 ∧ x.2 % PP = pwm a 1125899906842623) (fun x => ⟨[(2, pv b2), (3, .func (.func 110) #[] #[]), (7, pv x.1)], [dead, cl b2 #[.int .u64 0, .int .u64 0, .int .u64 0, .int .u64 0] 36, cl x.1 (e4 x.2) 36], []⟩) ?_ ?_
   · refine drs [dead, dead, dead, cl b5 (e4 m5) 36, cl b6 (e4 m6) 36] [] (.t 0 (.t 1 (.t 4 (.b 2 6 (.b 3 6 (.b 5 6 (.n 6 (.n 7 .nil)) (.n 5 (.n 7 .nil))) (.n 3 (.n 5 (.n 7 .nil)))) (.n 2 (.n 3 (.n 5 (.n 7 .nil)))))))) qi qq (by kernel_rfl) (.dead (.dead (.dead (.cons (.cons .nil))))) ?_
     refine ldN 4 rfl (qd _) ?_
     refine ldN 3 rfl (qd _) ?_
     refine ⟨?_, ?_⟩
     · refine ce (fun w _ => ep (grow_20 m6 hm6.1 w)) (fun m7 hm7 => ?_)
       refine ⟨.dead (.dead (.dead (.cons (.cons .nil)))), ?_⟩
       refine ⟨?_, ?_⟩
       · refine ce (fun w _ => ep (qa6 m7 hm7.1 w)) (fun m8 hm8 => ?_)
         refine ⟨.dead (.dead (.dead (.cons (.cons .nil)))), ?_⟩
         refine ⟨?_, ?_⟩
         · refine ce (fun w _ => ep (qL m8 m5 hm8.1 hm5.1 w)) (fun m9 hm9 => ?_)
           refine ⟨.dead (.dead (.dead (.cons (.cons .nil)))), ?_⟩
           intro b7
           refine ⟨.dead (.dead (.dead (.cons (.cons .nil)))), ?_⟩
           refine sN 5 rfl (by rw [qd]; rfl) (QC _) ?_ (by kernel_rfl)
           refine ⟨.dead (.dead (.dead (.cons (.cons .nil)))), ?_⟩
           exact ⟨(b7, m9), ⟨hm9.1, qcn a m6 m7 m8 m5 m9 hk6 hk5 hm7.2 hm8.2 hm9.2⟩, ⟨rfl, rfl, rfl, trivial⟩, .dead (.cons (.drop (.drop (.drop (.cons .nil))))), rfl⟩
         · intro b7
           refine ⟨.dead (.dead (.dead (.cons (.cons .nil)))), ?_⟩
           refine ce (fun w _ => ep (qL m8 m5 hm8.1 hm5.1 w)) (fun m9 hm9 => ?_)
           refine ⟨.dead (.dead (.dead (.cons (.cons .nil)))), ?_⟩
           refine sN 5 rfl (by rw [qd]; rfl) (QC _) ?_ (by kernel_rfl)
           refine ⟨.dead (.dead (.dead (.cons (.cons .nil)))), ?_⟩
           exact ⟨(b7, m9), ⟨hm9.1, qcn a m6 m7 m8 m5 m9 hk6 hk5 hm7.2 hm8.2 hm9.2⟩, ⟨rfl, rfl, rfl, trivial⟩, .dead (.cons (.drop (.drop (.drop (.cons .nil))))), rfl⟩
       · intro b7
         refine ⟨.dead (.dead (.dead (.cons (.cons .nil)))), ?_⟩
         refine ce (fun w _ => ep (qa6 m7 hm7.1 w)) (fun m8 hm8 => ?_)
         refine ⟨.dead (.dead (.dead (.cons (.cons .nil)))), ?_⟩
         refine ce (fun w _ => ep (qL m8 m5 hm8.1 hm5.1 w)) (fun m9 hm9 => ?_)
         refine ⟨.dead (.dead (.dead (.cons (.cons .nil)))), ?_⟩
         refine sN 5 rfl (by rw [qd]; rfl) (QC _) ?_ (by kernel_rfl)
         refine ⟨.dead (.dead (.dead (.cons (.cons .nil)))), ?_⟩
         exact ⟨(b7, m9), ⟨hm9.1, qcn a m6 m7 m8 m5 m9 hk6 hk5 hm7.2 hm8.2 hm9.2⟩, ⟨rfl, rfl, rfl, trivial⟩, .dead (.cons (.drop (.drop (.drop (.cons .nil))))), rfl⟩
     · intro b7
       refine ⟨.dead (.dead (.dead (.cons (.cons .nil)))), ?_⟩
       refine ce (fun w _ => ep (grow_20 m6 hm6.1 w)) (fun m7 hm7 => ?_)
       refine ⟨.dead (.dead (.dead (.cons (.cons .nil)))), ?_⟩
       refine ce (fun w _ => ep (qa6 m7 hm7.1 w)) (fun m8 hm8 => ?_)
       refine ⟨.dead (.dead (.dead (.cons (.cons .nil)))), ?_⟩
       refine ce (fun w _ => ep (qL m8 m5 hm8.1 hm5.1 w)) (fun m9 hm9 => ?_)
       refine ⟨.dead (.dead (.dead (.cons (.cons .nil)))), ?_⟩
       refine sN 5 rfl (by rw [qd]; rfl) (QC _) ?_ (by kernel_rfl)
       refine ⟨.dead (.dead (.dead (.cons (.cons .nil)))), ?_⟩
       exact ⟨(b7, m9), ⟨hm9.1, qcn a m6 m7 m8 m5 m9 hk6 hk5 hm7.2 hm8.2 hm9.2⟩, ⟨rfl, rfl, rfl, trivial⟩, .dead (.cons (.drop (.drop (.drop (.cons .nil))))), rfl⟩
   · rintro ⟨b7, m9⟩ ⟨hm9, hk9⟩
     dsimp only at hm9 hk9 ⊢
     refine ldN 2 rfl (qd _) ?_
     refine ce (fun w _ => ep (grow_50 m9 hm9 w)) (fun m10 hm10 => ?_)
     have hk10 := ZK a m9 1125899906842623 1125899906842625 m10 1267650600228229401496703205375 hk9 hm10.2 (by decide +kernel)
     intro b8
     refine sN 3 rfl (by rw [qd]; rfl) (QC _) ?_ (by kernel_rfl)
     refine drs [dead, dead, cl b7 (e4 m9) 36, cl b8 (e4 m10) 36] [6] (.t 0 (.t 1 (.t 4 (.n 2 (.n 3 (.n 5 (.n 6 .nil))))))) qi qq (by kernel_rfl) (.dead (.dead (.cons (.cons .nil)))) ?_
     refine ldN 3 rfl (qd _) ?_
     refine ldN 2 rfl (qd _) ?_
     refine ce (fun w _ => ep (grow_100 m10 hm10.1 w)) (fun m11 hm11 => ?_)
     refine ⟨.dead (.dead (.cons (.cons .nil))), ?_⟩
     refine ce (fun w _ => ep (squares_50 m11 hm11.1 w)) (fun m12 hm12 => ?_)
     refine ⟨.dead (.dead (.cons (.cons .nil))), ?_⟩
     refine ce (fun w _ => ep (qL m12 m9 hm12.1 hm9 w)) (fun m13 hm13 => ?_)
     refine ⟨.dead (.dead (.cons (.cons .nil))), ?_⟩
     refine sN 1 rfl (by rw [qd]; rfl) (QC _) ?_ (by kernel_rfl)
     refine ldN 1 rfl (qd _) ?_
     exact ⟨fun w1 hs => ⟨m13, hm13.1, p_all a m10 m11 m12 m9 m13 hk10 hk9 hm11.2 hm12.2 hm13.2, rfl, hs.below⟩⟩
end
section
open Go.RowKit Go.Lib
theorem p_over (a b n1 n2 n3 n4 n5 n6 n7 n8 : Nat) (h1 : n1 % PP = pwm b 2) (h2 : n2 % PP = pwm n1 4) (h3 : n3 % PP = n2 * b % PP) (h4 : n4 % PP = n3 * n1 % PP)
 (h5 : n5 % PP = pwm b 1809251394333065553493296640760748560207343510400633813116524750123642650623) (h6 : n6 % PP = pwm n5 32) (h7 : n7 % PP = n6 * n4 % PP) (h8 : n8 % PP = a * n7 % PP) : n8 % PP = a * pwm b (PP - 2) % PP := by
 have k2 := ZK b n1 2 4 n2 8 h1 h2 rfl
 have k3 := qa2 b n2 b 8 1 n3 9 k2 (qbr b) h3 rfl
 have k4 := qa2 b n3 n1 9 2 n4 11 k3 h1 h4 rfl
 have k6 := ZK b n5 1809251394333065553493296640760748560207343510400633813116524750123642650623 32 n6 57896044618658097711785492504343953926634992332820282019728792003956564819936 h5 h6 (by decide +kernel)
 have k7 := qa2 b n6 n4 57896044618658097711785492504343953926634992332820282019728792003956564819936 11 n7 (PP - 2) k6 k4 h7 (by decide +kernel)
 rw [h8, Nat.mul_mod, k7, Nat.mod_mul_mod]
theorem qbv (a b : Nat) (ha : a < 115792089237316195423570985008687907853269984665640564039457584007913129639936) (hb0 : b < 115792089237316195423570985008687907853269984665640564039457584007913129639936) (w : World) :
 Calls Try.prog 42 #[.agg (e4 a), .agg (e4 b)] w (ElP (a * pwm b (PP - 2) % PP) w) := by
 have hs1 := fun w => z4 b hb0 w
 have hs2 := qaG
 have hs5 := squares_5
 have ht := fun x y hx hy w => qL x y hx hy w
 have hpw := fun w => qaK b hb0 w
 have hpo := p_over a b
 have Hs1 := Lib.hid hs1; clear hs1
 have Hs2 := Lib.hid hs2; clear hs2
 have Hs5 := Lib.hid hs5; clear hs5
 have Ht := Lib.hid ht; clear ht
 have Hpw := Lib.hid hpw; clear hpw
 have Hpo := Lib.hid hpo; clear hpo
 have Ha := Lib.hid ha; clear ha
 have Hb0 := Lib.hid hb0; clear hb0
 obtain ⟨R, hR⟩ : ∃ R, R = a * pwm b (PP - 2) % PP := ⟨_, rfl⟩
 rw [← hR] at Hpo ⊢
 clear hR
 go_enter Try.func42, Try.ntmps42
 go_step
 go_step
 iterate 3 (refine wpList_step (fun K hK => ?_); go_simp; (try go_bits); refine hK _ _ ?_; clear hK K)
 refine wpList_nil ?_
 have M2 := Lib.hid (((Has.new w  (e4 a) 36).alloc (.cells (e4 b) 36)).alloc (.cells (#[.int .u64 0, .int .u64 0, .int .u64 0, .int .u64 0] : Array Value) 36))
 have M3 := Lib.hid ((Has.new1 w (.cells (e4 a) 36) (e4 b) 36).alloc (.cells (#[.int .u64 0, .int .u64 0, .int .u64 0, .int .u64 0] : Array Value) 36))
 have M4 := Lib.hid (HasN.new2 w (.cells (e4 a) 36) (.cells (e4 b) 36) (#[.int .u64 0, .int .u64 0, .int .u64 0, .int .u64 0] : Array Value) 36 4 (by kernel_rfl))
 have HB := Lib.hid (QD w (.cells (e4 a) 36) (.cells (e4 b) 36) (.cells (#[.int .u64 0, .int .u64 0, .int .u64 0, .int .u64 0] : Array Value) 36))
 go_step
 go_step
 go_step
 go_step
 refine qv (by rfl) 36 _ rfl (w.heap.size + 1) rfl 36 (e4 b) M3.out Try.underlying36 rfl (by rw [qd]; kernel_rfl) 7 rfl ?_
 (try simp only [Act.put, sI, sS, sZ])
 refine qm (by rfl) rfl rfl (by rfl) ent83 (by rfl) (Hs1.out _) 8 rfl ?_
 rintro e uw1 ⟨n1, hn1, hn1r, rfl, hb⟩
 replace M2 := Lib.hid (M2.out.call hb)
 replace M3 := Lib.hid (M3.out.call hb)
 replace M4 := Lib.hid (M4.out.call hb)
 replace HB := Lib.hid (qh HB.out hb)
 refine ⟨_, rfl, ?_⟩
 clear hb
 (try simp only [Act.put, sI, sS, sZ])
 refine wpList_step (fun K hK => ?_)
 go_simp
 have hlt1 := M2.out.lt
 have hlt2 := M3.out.lt
 have hlt3 := M4.out.lt
 replace M2 := Lib.hid (M2.out.alloc (.cells (#[.int .u64 0, .int .u64 0, .int .u64 0, .int .u64 0] : Array Value) 36))
 replace M3 := Lib.hid (M3.out.alloc (.cells (#[.int .u64 0, .int .u64 0, .int .u64 0, .int .u64 0] : Array Value) 36))
 replace M4 := Lib.hid (M4.out.alloc (.cells (#[.int .u64 0, .int .u64 0, .int .u64 0, .int .u64 0] : Array Value) 36))
 have M5 := Lib.hid (HasN.new uw1 (#[.int .u64 0, .int .u64 0, .int .u64 0, .int .u64 0] : Array Value) 36 4 rfl)
 have hsz := HB.out.size
 replace HB := Lib.hid (HB.out.alloc hsz (.cells (#[.int .u64 0, .int .u64 0, .int .u64 0, .int .u64 0] : Array Value) 36))
 refine hK _ _ ?_
 clear hK K
 first | (obtain ⟨Zq, hZ, mZ⟩ := M5.out) | (obtain ⟨Zq, hZ, mZ⟩ := M5.out.toN (qd _))
 clear M5
 have hZ' := Lib.hid hZ; clear hZ
 have mZ' := Lib.hid mZ; clear mZ
 refine wpList_store_row rfl 36 _ _ rfl (uw1.heap.size) _ rfl rfl 36 Zq mZ'.out (by rw [qd]; kernel_rfl) (hZ'.out.trans (qd _).symm) (qp _ _ _) ?_
 (try simp only [Act.put, sI, sS, sZ])
 replace M2 := Lib.hid (M2.out.setRow_other (uw1.heap.size) (e4 n1) (by omega))
 replace M3 := Lib.hid (M3.out.setRow_other (uw1.heap.size) (e4 n1) (by omega))
 replace M4 := Lib.hid (M4.out.setRow_other (uw1.heap.size) (e4 n1) (by omega))
 have M5 := Lib.hid (mZ'.out.setRow (e4 n1))
 clear mZ' hZ'
 replace HB := Lib.hid (below_setRow HB.out (uw1.heap.size) (e4 n1) (by omega))
 refine wpList_nil ?_
 have Hn1r := Lib.hid hn1r; clear hn1r
 go_step
 go_step
 go_step
 refine Zb (α := Nat × Nat × Nat × Nat) (fun W0 x w' => x.2.2.2 < 115792089237316195423570985008687907853269984665640564039457584007913129639936 ∧ x.2.1 % PP = pwm n1 4 ∧ x.2.2.1 % PP = x.2.1 * b % PP ∧ x.2.2.2 % PP = x.2.2.1 * n1 % PP ∧ W0.heap.size ≤ x.1 ∧ Has w' x.1 (e4 x.2.2.2) 36 ∧ Below W0.heap.size W0 w') (fun ac x => (((((((ac.put (some 9) (.agg (e4 n1))).put (some 10) (.agg (e4 x.2.1))).put (some 11) (.agg (e4 b))).put (some 12) (.agg (e4 x.2.2.1))).put (some 13) (.agg (e4 n1))).put (some 14) (.agg (e4 x.2.2.2))).put (some 6) (.pointer (some ⟨x.1, 0, none⟩)))) ?_ ?_
 · intro Q' hQ'
   refine wp_region_noPanic ?_
   refine Qm 99 8 #[ff,ff,ff,ff,ff,ff,ff,ff] (by kernel_rfl) rfl rfl ?_
   intro W4 hW4
   rw [← hW4] at hQ'
   simp only [Act.put, List.setIfInBounds_toArray, List.set_cons_succ, List.set_cons_zero] at hQ'
   have HQ := Lib.hid hQ'; clear hQ'
   rw [← hW4] at M2 M3 M4 M5 HB
   clear hW4
   refine qg 0 9 #[tt,ff,ff,ff,ff,ff,ff,ff] rfl rfl rfl (by kernel_rfl) (qj (by rfl) 36 _ rfl (uw1.heap.size) rfl 36 (e4 n1) (fun _ h => M5.out.below h M5.out.lt) Try.underlying36 rfl (by rw [qd]; kernel_rfl)) ((qt W4)) ?_
   (try simp only [sI, sS, sZ])
   refine qg 2 11 #[tt,ff,tt,ff,ff,ff,ff,ff] rfl rfl rfl (by kernel_rfl) (qj (by rfl) 36 _ rfl (w.heap.size + 1) rfl 36 (e4 b) (fun _ h => M3.out.below h M3.out.lt) Try.underlying36 rfl (by rw [qd]; kernel_rfl)) ((qt W4)) ?_
   (try simp only [sI, sS, sZ])
   refine qg 4 13 #[tt,ff,tt,ff,tt,ff,ff,ff] rfl rfl rfl (by kernel_rfl) (qj (by rfl) 36 _ rfl (uw1.heap.size) rfl 36 (e4 n1) (fun _ h => M5.out.below h M5.out.lt) Try.underlying36 rfl (by rw [qd]; kernel_rfl)) ((qt W4)) ?_
   (try simp only [sI, sS, sZ])
   refine zw (i := 1) (j := 6) (by kernel_rfl) ?_ ?_
   refine qE 1 10 #[tt,tt,tt,ff,tt,ff,ff,ff] rfl rfl rfl (by rfl) rfl rfl (by rfl) ent83 (by rfl) (Hs2.out n1 hn1 _) ?_
   rintro e wW41 ⟨n2, hn2, hn2r, rfl, hb⟩
   have hkW41 := qh (qt W4) hb
   refine ⟨_, rfl, fun _ => hkW41, ?_⟩
   clear hb
   (try simp only [sI, sS, sZ])
   refine zw (i := 3) (j := 6) (by kernel_rfl) ?_ ?_
   refine qE 3 12 #[tt,tt,tt,tt,tt,ff,ff,ff] rfl rfl rfl (by rfl) rfl rfl (by rfl) qbF (by rfl) (Ht.out n2 b hn2 Hb0.out _) ?_
   rintro e wW42 ⟨n3, hn3, hn3r, rfl, hb⟩
   have hkW42 := qh hkW41 hb
   refine ⟨_, rfl, fun _ => hkW42, ?_⟩
   clear hb
   (try simp only [sI, sS, sZ])
   refine zw (i := 5) (j := 6) (by kernel_rfl) ?_ ?_
   refine qE 5 14 #[tt,tt,tt,tt,tt,tt,ff,ff] rfl rfl rfl (by rfl) rfl rfl (by rfl) qbF (by rfl) (Ht.out n3 n1 hn3 hn1 _) ?_
   rintro e wW43 ⟨n4, hn4, hn4r, rfl, hb⟩
   have hkW43 := qh hkW42 hb
   refine ⟨_, rfl, fun _ => hkW43, ?_⟩
   clear hb
   (try simp only [sI, sS, sZ])
   refine qk (i := 6) (by kernel_rfl) ?_
   refine QO 6 6 #[tt,tt,tt,tt,tt,tt,tt,ff] rfl rfl rfl (by rfl) 36 rfl _ qcj ?_
   intro wW44 hw2
   have hkW44 := (hkW43).alloc (hkW43).size (.cells z36 36)
   rw [← hw2] at hkW44
   have MA6 := Lib.hid (HasN.new (wW43) z36 36 4 (by kernel_rfl))
   rw [← hw2] at MA6
   have HA6 := Lib.hid (show W4.heap.size ≤ _ from (hkW43).size)
   clear hw2
   refine ⟨fun _ => hkW44, ?_⟩
   (try simp only [sI, sS, sZ])
   refine qk (i := 7) (by kernel_rfl) ?_
   obtain ⟨Zq, hZ, mZ⟩ := MA6.out
   refine qZ 7 #[tt,tt,tt,tt,tt,tt,tt,tt] rfl rfl rfl (by rfl) 36 _ _ rfl _ _ rfl rfl 36 Zq mZ (by rw [qd]; kernel_rfl) (hZ.trans (qd ..).symm) (qp _ _ _) ?_
   intro wW45 hw2
   have hkW45 := below_setRow (hkW44) _ (e4 n4) HA6.out
   rw [← hw2] at hkW45
   clear MA6
   have MA6 := Lib.hid (mZ.setRow (e4 n4))
   rw [← hw2] at MA6; clear mZ hZ hw2
   refine ⟨fun _ => hkW45, ?_⟩
   (try simp only [sI, sS, sZ])
   exact qu (by kernel_rfl) (NoPanic.normal (HQ.out (_, n2, n3, n4) _ ⟨hn4, hn2r, hn3r, hn4r, HA6.out, MA6.out, (hkW45)⟩))
   refine QO 6 6 #[tt,tt,tt,tt,tt,ff,tt,ff] rfl rfl rfl (by rfl) 36 rfl _ qcj ?_
   intro wW43 hw2
   have hkW43 := (hkW42).alloc (hkW42).size (.cells z36 36)
   rw [← hw2] at hkW43
   have MA6 := Lib.hid (HasN.new (wW42) z36 36 4 (by kernel_rfl))
   rw [← hw2] at MA6
   have HA6 := Lib.hid (show W4.heap.size ≤ _ from (hkW42).size)
   clear hw2
   refine ⟨fun _ => hkW43, ?_⟩
   (try simp only [sI, sS, sZ])
   refine qk (i := 5) (by kernel_rfl) ?_
   refine qE 5 14 #[tt,tt,tt,tt,tt,tt,tt,ff] rfl rfl rfl (by rfl) rfl rfl (by rfl) qbF (by rfl) (Ht.out n3 n1 hn3 hn1 _) ?_
   rintro e wW44 ⟨n4, hn4, hn4r, rfl, hb⟩
   have hkW44 := qh hkW43 hb
   replace MA6 := Lib.hid (MA6.out.call hb)
   refine ⟨_, rfl, fun _ => hkW44, ?_⟩
   clear hb
   (try simp only [sI, sS, sZ])
   refine qk (i := 7) (by kernel_rfl) ?_
   obtain ⟨Zq, hZ, mZ⟩ := MA6.out
   refine qZ 7 #[tt,tt,tt,tt,tt,tt,tt,tt] rfl rfl rfl (by rfl) 36 _ _ rfl _ _ rfl rfl 36 Zq mZ (by rw [qd]; kernel_rfl) (hZ.trans (qd ..).symm) (qp _ _ _) ?_
   intro wW45 hw2
   have hkW45 := below_setRow (hkW44) _ (e4 n4) HA6.out
   rw [← hw2] at hkW45
   clear MA6
   have MA6 := Lib.hid (mZ.setRow (e4 n4))
   rw [← hw2] at MA6; clear mZ hZ hw2
   refine ⟨fun _ => hkW45, ?_⟩
   (try simp only [sI, sS, sZ])
   exact qu (by kernel_rfl) (NoPanic.normal (HQ.out (_, n2, n3, n4) _ ⟨hn4, hn2r, hn3r, hn4r, HA6.out, MA6.out, (hkW45)⟩))
   refine QO 6 6 #[tt,tt,tt,ff,tt,ff,tt,ff] rfl rfl rfl (by rfl) 36 rfl _ qcj ?_
   intro wW42 hw2
   have hkW42 := (hkW41).alloc (hkW41).size (.cells z36 36)
   rw [← hw2] at hkW42
   have MA6 := Lib.hid (HasN.new (wW41) z36 36 4 (by kernel_rfl))
   rw [← hw2] at MA6
   have HA6 := Lib.hid (show W4.heap.size ≤ _ from (hkW41).size)
   clear hw2
   refine ⟨fun _ => hkW42, ?_⟩
   (try simp only [sI, sS, sZ])
   refine qk (i := 3) (by kernel_rfl) ?_
   refine qE 3 12 #[tt,tt,tt,tt,tt,ff,tt,ff] rfl rfl rfl (by rfl) rfl rfl (by rfl) qbF (by rfl) (Ht.out n2 b hn2 Hb0.out _) ?_
   rintro e wW43 ⟨n3, hn3, hn3r, rfl, hb⟩
   have hkW43 := qh hkW42 hb
   replace MA6 := Lib.hid (MA6.out.call hb)
   refine ⟨_, rfl, fun _ => hkW43, ?_⟩
   clear hb
   (try simp only [sI, sS, sZ])
   refine qk (i := 5) (by kernel_rfl) ?_
   refine qE 5 14 #[tt,tt,tt,tt,tt,tt,tt,ff] rfl rfl rfl (by rfl) rfl rfl (by rfl) qbF (by rfl) (Ht.out n3 n1 hn3 hn1 _) ?_
   rintro e wW44 ⟨n4, hn4, hn4r, rfl, hb⟩
   have hkW44 := qh hkW43 hb
   replace MA6 := Lib.hid (MA6.out.call hb)
   refine ⟨_, rfl, fun _ => hkW44, ?_⟩
   clear hb
   (try simp only [sI, sS, sZ])
   refine qk (i := 7) (by kernel_rfl) ?_
   obtain ⟨Zq, hZ, mZ⟩ := MA6.out
   refine qZ 7 #[tt,tt,tt,tt,tt,tt,tt,tt] rfl rfl rfl (by rfl) 36 _ _ rfl _ _ rfl rfl 36 Zq mZ (by rw [qd]; kernel_rfl) (hZ.trans (qd ..).symm) (qp _ _ _) ?_
   intro wW45 hw2
   have hkW45 := below_setRow (hkW44) _ (e4 n4) HA6.out
   rw [← hw2] at hkW45
   clear MA6
   have MA6 := Lib.hid (mZ.setRow (e4 n4))
   rw [← hw2] at MA6; clear mZ hZ hw2
   refine ⟨fun _ => hkW45, ?_⟩
   (try simp only [sI, sS, sZ])
   exact qu (by kernel_rfl) (NoPanic.normal (HQ.out (_, n2, n3, n4) _ ⟨hn4, hn2r, hn3r, hn4r, HA6.out, MA6.out, (hkW45)⟩))
   refine QO 6 6 #[tt,ff,tt,ff,tt,ff,tt,ff] rfl rfl rfl (by rfl) 36 rfl _ qcj ?_
   intro wW41 hw2
   have hkW41 := ((qt W4)).alloc ((qt W4)).size (.cells z36 36)
   rw [← hw2] at hkW41
   have MA6 := Lib.hid (HasN.new (W4.drew) z36 36 4 (by kernel_rfl))
   rw [← hw2] at MA6
   have HA6 := Lib.hid (show W4.heap.size ≤ _ from ((qt W4)).size)
   clear hw2
   refine ⟨fun _ => hkW41, ?_⟩
   (try simp only [sI, sS, sZ])
   refine qk (i := 1) (by kernel_rfl) ?_
   refine qE 1 10 #[tt,tt,tt,ff,tt,ff,tt,ff] rfl rfl rfl (by rfl) rfl rfl (by rfl) ent83 (by rfl) (Hs2.out n1 hn1 _) ?_
   rintro e wW42 ⟨n2, hn2, hn2r, rfl, hb⟩
   have hkW42 := qh hkW41 hb
   replace MA6 := Lib.hid (MA6.out.call hb)
   refine ⟨_, rfl, fun _ => hkW42, ?_⟩
   clear hb
   (try simp only [sI, sS, sZ])
   refine qk (i := 3) (by kernel_rfl) ?_
   refine qE 3 12 #[tt,tt,tt,tt,tt,ff,tt,ff] rfl rfl rfl (by rfl) rfl rfl (by rfl) qbF (by rfl) (Ht.out n2 b hn2 Hb0.out _) ?_
   rintro e wW43 ⟨n3, hn3, hn3r, rfl, hb⟩
   have hkW43 := qh hkW42 hb
   replace MA6 := Lib.hid (MA6.out.call hb)
   refine ⟨_, rfl, fun _ => hkW43, ?_⟩
   clear hb
   (try simp only [sI, sS, sZ])
   refine qk (i := 5) (by kernel_rfl) ?_
   refine qE 5 14 #[tt,tt,tt,tt,tt,tt,tt,ff] rfl rfl rfl (by rfl) rfl rfl (by rfl) qbF (by rfl) (Ht.out n3 n1 hn3 hn1 _) ?_
   rintro e wW44 ⟨n4, hn4, hn4r, rfl, hb⟩
   have hkW44 := qh hkW43 hb
   replace MA6 := Lib.hid (MA6.out.call hb)
   refine ⟨_, rfl, fun _ => hkW44, ?_⟩
   clear hb
   (try simp only [sI, sS, sZ])
   refine qk (i := 7) (by kernel_rfl) ?_
   obtain ⟨Zq, hZ, mZ⟩ := MA6.out
   refine qZ 7 #[tt,tt,tt,tt,tt,tt,tt,tt] rfl rfl rfl (by rfl) 36 _ _ rfl _ _ rfl rfl 36 Zq mZ (by rw [qd]; kernel_rfl) (hZ.trans (qd ..).symm) (qp _ _ _) ?_
   intro wW45 hw2
   have hkW45 := below_setRow (hkW44) _ (e4 n4) HA6.out
   rw [← hw2] at hkW45
   clear MA6
   have MA6 := Lib.hid (mZ.setRow (e4 n4))
   rw [← hw2] at MA6; clear mZ hZ hw2
   refine ⟨fun _ => hkW45, ?_⟩
   (try simp only [sI, sS, sZ])
   exact qu (by kernel_rfl) (NoPanic.normal (HQ.out (_, n2, n3, n4) _ ⟨hn4, hn2r, hn3r, hn4r, HA6.out, MA6.out, (hkW45)⟩))
 · rintro W4 ⟨B6, n2, n3, n4⟩ vw4 hW4 ⟨hn4, hn2r, hn3r, hn4r, hBq0, mBq0, hbw⟩
   simp only [Act.put, List.setIfInBounds_toArray, List.set_cons_succ, List.set_cons_zero] at hn4 hn2r hn3r hn4r hBq0  mBq0 ⊢
   rw [← hW4] at M2 M3 M4 M5 HB
   clear hW4
   have hltM2_4 := M2.out.lt
   have hltM3_4 := M3.out.lt
   have hltM4_4 := M4.out.lt
   have hltM5_4 := M5.out.lt
   replace M2 := Lib.hid (M2.out.call hbw)
   replace M3 := Lib.hid (M3.out.call hbw)
   replace M4 := Lib.hid (M4.out.call hbw)
   replace M5 := Lib.hid (M5.out.call hbw)
   replace HB := Lib.hid (qh HB.out hbw)
   have M6 := Lib.hid mBq0; clear mBq0
   clear hbw
   have Hn2r := Lib.hid hn2r; clear hn2r
   have Hn3r := Lib.hid hn3r; clear hn3r
   have Hn4r := Lib.hid hn4r; clear hn4r
   clear M5
   go_step
   go_step
   go_step
   refine wp_region_noPanic ?_
   refine Qm 7 8 #[ff,ff,ff,ff,ff,ff,ff,ff] (by kernel_rfl) rfl rfl ?_
   intro W5 hW5
   rw [← hW5] at M2 M3 M4 M6 HB
   clear hW5
   have M4N := Lib.hid (by first | exact M4.out | exact M4.out.toN (by first | exact qd _ | exact qe _ | exact qf _ | exact qs .. | exact qA ..) : HasN W5 (w.heap.size + 1 + 1) _ _)
   refine qg 0 15 #[tt,ff,ff,ff,ff,ff,ff,ff] rfl rfl rfl (by kernel_rfl) (qj (by rfl) 36 _ rfl (w.heap.size) rfl 36 (e4 a) (fun _ h => M2.out.below h M2.out.lt) Try.underlying36 rfl (by rw [qd]; kernel_rfl)) ((qt W5)) ?_
   (try simp only [sI, sS, sZ])
   refine qg 1 16 #[tt,tt,ff,ff,ff,ff,ff,ff] rfl rfl rfl (by kernel_rfl) (qj (by rfl) 36 _ rfl (w.heap.size + 1) rfl 36 (e4 b) (fun _ h => M3.out.below h M3.out.lt) Try.underlying36 rfl (by rw [qd]; kernel_rfl)) ((qt W5)) ?_
   (try simp only [sI, sS, sZ])
   refine qg 4 19 #[tt,tt,ff,ff,tt,ff,ff,ff] rfl rfl rfl (by kernel_rfl) (qj (by rfl) 36 _ rfl (B6) rfl 36 (e4 n4) (fun _ h => M6.out.below h M6.out.lt) Try.underlying36 rfl (by rw [qd]; kernel_rfl)) ((qt W5)) ?_
   (try simp only [sI, sS, sZ])
   refine qk (i := 2) (by kernel_rfl) ?_
   refine qE 2 17 #[tt,tt,tt,ff,tt,ff,ff,ff] rfl rfl rfl (by rfl) rfl rfl (by rfl) ent84 (by rfl) (Hpw.out _) ?_
   rintro e wW51 ⟨n5, hn5, hn5r, rfl, hb⟩
   have hkW51 := qh (qt W5) hb
   refine ⟨_, rfl, fun _ => hkW51, ?_⟩
   clear hb
   (try simp only [sI, sS, sZ])
   refine qk (i := 3) (by kernel_rfl) ?_
   refine qE 3 18 #[tt,tt,tt,tt,tt,ff,ff,ff] rfl rfl rfl (by rfl) rfl rfl (by rfl) ent83 (by rfl) (Hs5.out n5 hn5 _) ?_
   rintro e wW52 ⟨n6, hn6, hn6r, rfl, hb⟩
   have hkW52 := qh hkW51 hb
   refine ⟨_, rfl, fun _ => hkW52, ?_⟩
   clear hb
   (try simp only [sI, sS, sZ])
   refine qk (i := 5) (by kernel_rfl) ?_
   refine qE 5 20 #[tt,tt,tt,tt,tt,tt,ff,ff] rfl rfl rfl (by rfl) rfl rfl (by rfl) qbF (by rfl) (Ht.out n6 n4 hn6 hn4 _) ?_
   rintro e wW53 ⟨n7, hn7, hn7r, rfl, hb⟩
   have hkW53 := qh hkW52 hb
   refine ⟨_, rfl, fun _ => hkW53, ?_⟩
   clear hb
   (try simp only [sI, sS, sZ])
   refine qk (i := 6) (by kernel_rfl) ?_
   refine qE 6 21 #[tt,tt,tt,tt,tt,tt,tt,ff] rfl rfl rfl (by rfl) rfl rfl (by rfl) qbF (by rfl) (Ht.out a n7 Ha.out hn7 _) ?_
   rintro e wW54 ⟨n8, hn8, hn8r, rfl, hb⟩
   have hkW54 := qh hkW53 hb
   refine ⟨_, rfl, fun _ => hkW54, ?_⟩
   clear hb
   (try simp only [sI, sS, sZ])
   refine qk (i := 7) (by kernel_rfl) ?_
   obtain ⟨Zq, hZ, mZ⟩ := M4N.out.below hkW54 M4N.out.lt
   have MZ := Lib.hid mZ; clear mZ
   have HZ := Lib.hid hZ; clear hZ
   refine ZM 7 #[tt,tt,tt,tt,tt,tt,tt,tt] rfl rfl rfl (by rfl) 36 _ _ rfl (w.heap.size + 1 + 1) _ rfl rfl 36 Zq MZ.out (by rw [qd]; kernel_rfl) (HZ.out.trans (qd ..).symm) (qp _ _ _) ⟨fun h => (h rfl).elim, ?_⟩
   (try simp only [sI, sS, sZ])
   refine qu (by kernel_rfl) (NoPanic.normal ?_)
   replace M2 := Lib.hid ((M2.out.call hkW54).setRow_other (w.heap.size + 1 + 1) (e4 n8) (by omega))
   replace M3 := Lib.hid ((M3.out.call hkW54).setRow_other (w.heap.size + 1 + 1) (e4 n8) (by omega))
   replace M6 := Lib.hid ((M6.out.call hkW54).setRow_other (w.heap.size + 1 + 1) (e4 n8) (by omega))
   clear M4 M4N
   have M4 := Lib.hid (MZ.out.setRow (e4 n8)); clear MZ HZ
   replace HB := Lib.hid (below_setRow (qh HB.out hkW54) (w.heap.size + 1 + 1) (e4 n8) (by omega))
   have hfin := Hpo.out n1 n2 n3 n4 n5 n6 n7 n8 Hn1r.out Hn2r.out Hn3r.out Hn4r.out hn5r hn6r hn7r hn8r
   have Hfin := Lib.hid hfin; clear hfin
   go_wp2_with fail
   exact bodyPost_ret (v := .agg (e4 n8)) (results_cell_row (t := 36) (by rfl) _ _ (w.heap.size + 1 + 1) _ _ _ rfl M4.out Try.underlying36 rfl (by rw [qd]; kernel_rfl)) rfl ⟨n8, hn8, Hfin.out, rfl, HB.out⟩
end
section
def chi (a : Nat) : Nat := pwm a ((PP - 1) / 2)
theorem chi_sq (a : Nat) (ha : a % PP ≠ 0) : chi a * chi a % PP = 1 := by
 unfold chi
 rw [← qbq, show (PP - 1) / 2 + (PP - 1) / 2 = PP - 1 by decide +kernel]
 exact little a ha
theorem one_sq (t : Nat) (ht : t < PP) (h : t * t % PP = 1) : t = 1 ∨ t = PP - 1 := by
 have h1 : (1 : Nat) < PP := by have := QB; omega
 have hb : (1 : Nat) * 1 % PP = 1 := Nat.mod_eq_of_lt h1
 rcases sq_eq t 1 ht h1 (h.trans hb.symm) with h2 | h2
 · exact .inl h2
 · right
   by_cases hh : t + 1 < PP
   · rw [Nat.mod_eq_of_lt hh] at h2; omega
   · omega
theorem qbT (b e : Nat) (h : e < 2 ^ 256) : pwm b e = Nm.pm PP 256 b e := (Nm.pm_eq PP 256 b e h).symm
theorem rti_e : (PP - 1 % PP) / 2 / 2 + (PP - 1 % PP) / 2 / 2 < 2 ^ 256 := by decide +kernel
theorem rti_pm : Nm.pm PP 256 (2 % PP) ((PP - 1 % PP) / 2 / 2 + (PP - 1 % PP) / 2 / 2) = PP - 1 := by decide +kernel
theorem pw_dbl (x b E r : Nat) (hx : x = pwm b E) (h1 : E + E < 2 ^ 256) (h2 : Nm.pm PP 256 b (E + E) = r) : x * x % PP = r := by
 rw [hx, ← qbq, qbT _ _ h1, h2]
theorem rti_def : rti = pwm (2 % PP) ((PP - 1 % PP) / 2 / 2) := by delta rti; exact rfl
theorem rti_sq : rti * rti % PP = PP - 1 := pw_dbl rti (2 % PP) ((PP - 1 % PP) / 2 / 2) (PP - 1) rti_def rti_e rti_pm
theorem mul_four (x y m : Nat) : x * y % m * (x * y % m) % m = (x * x % m) * (y * y % m) % m := by
 rw [← Nat.mul_mod, ← Nat.mul_mod]; congr 1; ac_rfl
theorem neg_mul (a b : Nat) (hb : b < PP) : a * (PP - b) % PP = (PP - a * b % PP) % PP := by
 have h1 := Nat.div_add_mod (a * b) PP
 have h2 : a * b % PP < PP := Nat.mod_lt _ qH
 have e : a * (PP - b) + a * b = a * PP := by rw [← Nat.mul_add]; congr 1; omega
 generalize a * b % PP = m at *
 generalize a * b / PP = q at *
 have hle : q ≤ a := by
  by_cases hq : q ≤ a
  · exact hq
  · have h3 : PP * (a + 1) ≤ PP * q := Nat.mul_le_mul_left _ (by omega)
    have h4 : a * b ≤ a * PP := Nat.mul_le_mul_left _ (by omega)
    rw [Nat.mul_add, Nat.mul_comm PP a] at h3
    have := qH
    omega
 obtain ⟨d, rfl⟩ : ∃ d, a = q + d := ⟨a - q, by omega⟩
 have e2 : (q + d) * PP = PP * q + PP * d := by rw [Nat.mul_comm, Nat.mul_add]
 by_cases hm : m = 0
 · subst hm
   have : (q + d) * (PP - b) = PP * d := by omega
   rw [this, Nat.mul_mod_right, Nat.sub_zero, Nat.mod_self]
 · have hd : 0 < d := by
    rcases Nat.eq_zero_or_pos d with h0 | h0
    · subst h0
      have h5 : (q + 0) * b ≤ (q + 0) * PP := Nat.mul_le_mul_left _ (Nat.le_of_lt hb)
      rw [e2, Nat.mul_zero] at h5
      omega
    · exact h0
   obtain ⟨f, rfl⟩ : ∃ f, d = f + 1 := ⟨d - 1, by omega⟩
   have : (q + (f + 1)) * (PP - b) = PP - m + PP * f := by
    rw [Nat.mul_add PP f 1] at e2; omega
   rw [this, Nat.add_mul_mod_self_left]
theorem rt1_sq (a : Nat) : rt1 a * rt1 a % PP = a * pwm a ((PP - 1) / 4) % PP := by
 unfold rt1
 rw [← qbq, show (PP + 3) / 2 / 2 / 2 + (PP + 3) / 2 / 2 / 2 = (PP - 1) / 4 + 1 by decide +kernel, pwm_succ, Nat.mul_comm]
theorem rtok_of_chi (a : Nat) (ha : a < PP) (h : chi a = 1) : Qy a = true := by
 have h4 : pwm a ((PP - 1) / 4) * pwm a ((PP - 1) / 4) % PP = 1 := by
  rw [← qbq, show (PP - 1) / 4 + (PP - 1) / 4 = (PP - 1) / 2 by decide +kernel]; exact h
 have hs := rt1_sq a
 unfold Qy rt2
 rcases one_sq _ (qcO _ _) h4 with h5 | h5
 · rw [h5, Nat.mul_one, Nat.mod_eq_of_lt ha] at hs
   rw [if_pos hs, hs]; exact decide_eq_true rfl
 · rw [h5] at hs
   by_cases hc : rt1 a * rt1 a % PP = a
   · rw [if_pos hc, hc]; exact decide_eq_true rfl
   · rw [if_neg hc]
     have e := mul_four (rt1 a) rti PP
     have h1 : (1 : Nat) < PP := by have := QB; omega
     have h6 : rt1 a * rt1 a % PP = (PP - a) % PP := by
      rw [hs, neg_mul a 1 h1, Nat.mul_one, Nat.mod_eq_of_lt ha]
     have h7 : (PP - a) % PP * (PP - 1) % PP = a := by
      rw [neg_mul _ 1 h1, Nat.mul_one, Nat.mod_mod]
      by_cases h0 : a = 0
      · subst h0; rw [Nat.sub_zero, Nat.mod_self, Nat.sub_zero, Nat.mod_self]
      · rw [Nat.mod_eq_of_lt (show PP - a < PP by omega), show PP - (PP - a) = a by omega, Nat.mod_eq_of_lt ha]
     rw [e, h6, rti_sq, h7]; exact decide_eq_true rfl
theorem rtok_zero (a : Nat) (ha : a = 0) : Qy a = true := by
 have h : rt1 a * rt1 a % PP = a := by rw [rt1_sq, ha, Nat.zero_mul, Nat.zero_mod]
 unfold Qy rt2
 rw [if_pos h]; exact decide_eq_true h
theorem rt1_lt (a : Nat) : rt1 a < PP := by unfold rt1; exact qcO _ _
theorem rt2_lt (a : Nat) : rt2 a < PP := by
 unfold rt2
 by_cases h : rt1 a * rt1 a % PP = a
 · rw [if_pos h]; exact rt1_lt a
 · rw [if_neg h]; exact Nat.mod_lt _ qH
theorem neg_neg_mod (x : Nat) (h : x < PP) : (PP - (PP - x) % PP) % PP = x := by
 by_cases h0 : x = 0
 · rw [h0, Nat.sub_zero, Nat.mod_self, Nat.sub_zero, Nat.mod_self]
 · rw [Nat.mod_eq_of_lt (show PP - x < PP by omega), show PP - (PP - x) = x by omega, Nat.mod_eq_of_lt h]
theorem neg_sq (r : Nat) (h : r < PP) : (PP - r) * (PP - r) % PP = r * r % PP := by
 rw [neg_mul _ r h, Nat.mul_comm, neg_mul _ r h]
 exact neg_neg_mod _ (Nat.mod_lt _ qH)
theorem rt3_sq (a : Nat) (h : Qy a = true) : rt3 a * rt3 a % PP = a := by
 have h2 : rt2 a * rt2 a % PP = a := of_decide_eq_true (show decide (rt2 a * rt2 a % PP = a) = true from h)
 unfold rt3
 rw [if_pos h]
 by_cases ho : rt2 a % 2 = 1
 · rw [if_pos ho, neg_sq _ (rt2_lt a), h2]
 · rw [if_neg ho, h2]
theorem PP_odd : PP % 2 = 1 := by decide +kernel
theorem rt3_even (a : Nat) : rt3 a % 2 = 0 := by
 unfold rt3
 have h1 := rt2_lt a
 have h2 := PP_odd
 by_cases h : Qy a = true
 · rw [if_pos h]
   by_cases ho : rt2 a % 2 = 1
   · rw [if_pos ho]; omega
   · rw [if_neg ho]; omega
 · rw [if_neg h]
theorem qbO (a : Nat) : rt3 a < PP := by
 unfold rt3
 have h1 := rt2_lt a
 have h2 := qH
 by_cases h : Qy a = true
 · rw [if_pos h]
   by_cases ho : rt2 a % 2 = 1
   · rw [if_pos ho]; omega
   · rw [if_neg ho]; exact h1
 · rw [if_neg h]; exact h2
theorem chi_mod (a : Nat) : chi (a % PP) = chi a := by unfold chi; exact ZU _ _
theorem chi_mul (a b : Nat) : chi (a * b) = chi a * chi b % PP := by unfold chi; exact pwm_mulbase _ _ _
theorem rtok_sq (u : Nat) : Qy (u * u % PP) = true := by
 by_cases h0 : u % PP = 0
 · exact rtok_zero _ (by rw [Nat.mul_mod, h0, Nat.zero_mul, Nat.zero_mod])
 · exact rtok_of_chi _ (Nat.mod_lt _ qH) (by rw [chi_mod, chi_mul]; exact chi_sq u h0)
theorem rt3_root (u : Nat) : rt3 (u * u % PP) = u % PP ∨ (rt3 (u * u % PP) + u) % PP = 0 := by
 have h := rt3_sq _ (rtok_sq u)
 rcases sq_eq (rt3 (u * u % PP)) (u % PP) (qbO _) (Nat.mod_lt _ qH) (h.trans (Nat.mul_mod u u PP)) with h1 | h1
 · exact .inl h1
 · right; rw [Nat.add_mod_mod] at h1; exact h1
end
section
open Go.RowKit Go.Sx
theorem even_yes (a : Nat) (ha : a < 115792089237316195423570985008687907853269984665640564039457584007913129639936) (h : a % PP % 2 = 0) (w : World) :
 Calls Try.prog 36 #[.agg (e4 a)] w fun e w' => e = .returned (.bool true) ∧ Below w.heap.size w w' := by
 have := qbE a ha w
 rwa [show (a % PP % 2 == 0) = true by rw [h]; rfl] at this
theorem even_no (a : Nat) (ha : a < 115792089237316195423570985008687907853269984665640564039457584007913129639936) (h : a % PP % 2 = 1) (w : World) :
 Calls Try.prog 36 #[.agg (e4 a)] w fun e w' => e = .returned (.bool false) ∧ Below w.heap.size w w' := by
 have := qbE a ha w
 rwa [show (a % PP % 2 == 0) = false by rw [h]; rfl] at this
def RtP (A : Nat) (w : World) (e : Ending) (w' : World) : Prop := ∃ m : Nat, m < 115792089237316195423570985008687907853269984665640564039457584007913129639936 ∧ m % PP = rt3 A ∧ e = .returned (.tuple #[.agg (e4 m), .bool (Qy A)]) ∧ Below w.heap.size w w'
theorem rt1_exp : (PP + 3) / 2 / 2 / 2 = 7237005577332262213973186563042994240829374041602535252466099000494570602494 := by decide +kernel
theorem rti_exp : (PP - 1 % PP) / 2 / 2 = 14474011154664524427946373126085988481658748083205070504932198000989141204987 := by decide +kernel
theorem rt1_def (a : Nat) : rt1 a = pwm a ((PP + 3) / 2 / 2 / 2) := by delta rt1; exact rfl
theorem qcU (a n1 n2 n3 n4 : Nat) (h1 : n1 % PP = pwm a 1809251394333065553493296640760748560207343510400633813116524750123642650623) (h2 : n2 % PP = pwm n1 4) (h3 : n3 % PP = n2 * a % PP) (h4 : n4 % PP = n3 * a % PP) : n4 % PP = rt1 (a % PP) := by
 have k2 := ZK a n1 1809251394333065553493296640760748560207343510400633813116524750123642650623 4 n2 7237005577332262213973186563042994240829374041602535252466099000494570602492 h1 h2 (by decide +kernel)
 have k3 := qa2 a n2 a 7237005577332262213973186563042994240829374041602535252466099000494570602492 1 n3 7237005577332262213973186563042994240829374041602535252466099000494570602493 k2 (qbr a) h3 (by decide +kernel)
 have k4 := qa2 a n3 a 7237005577332262213973186563042994240829374041602535252466099000494570602493 1 n4 7237005577332262213973186563042994240829374041602535252466099000494570602494 k3 (qbr a) h4 (by decide +kernel)
 rw [rt1_def, ZU, rt1_exp, k4]
theorem p_two (r n4 n5 n6 n7 n8 n9 n10 : Nat) (hr : n4 % PP = r) (h5 : n5 % PP = pwm 2 1809251394333065553493296640760748560207343510400633813116524750123642650623) (h6 : n6 % PP = pwm n5 8) (h7 : n7 % PP = pwm 2 2) (h8 : n8 % PP = n6 * n7 % PP) (h9 : n9 % PP = n8 * 2 % PP) (h10 : n10 % PP = n4 * n9 % PP) : n10 % PP = r * rti % PP := by
 have k6 := ZK 2 n5 1809251394333065553493296640760748560207343510400633813116524750123642650623 8 n6 14474011154664524427946373126085988481658748083205070504932198000989141204984 h5 h6 (by decide +kernel)
 have k8 := qa2 2 n6 n7 14474011154664524427946373126085988481658748083205070504932198000989141204984 2 n8 14474011154664524427946373126085988481658748083205070504932198000989141204986 k6 h7 h8 (by decide +kernel)
 have k9 := qa2 2 n8 2 14474011154664524427946373126085988481658748083205070504932198000989141204986 1 n9 14474011154664524427946373126085988481658748083205070504932198000989141204987 k8 (qbr 2) h9 (by decide +kernel)
 rw [rti_def, ZU, rti_exp, h10, Nat.mul_mod, hr, k9]
theorem rt2_yes (a : Nat) (h : rt1 a * rt1 a % PP = a) : rt2 a = rt1 a := by unfold rt2; rw [if_pos h]
theorem rt2_no (a : Nat) (h : ¬ rt1 a * rt1 a % PP = a) : rt2 a = rt1 a * rti % PP := by unfold rt2; rw [if_neg h]
theorem rt3_odd (a : Nat) (h : rt2 a * rt2 a % PP = a) (ho : rt2 a % 2 = 1) : rt3 a = (0 % PP + (PP - rt2 a)) % PP ∧ Qy a = true := by
 have h1 : Qy a = true := by unfold Qy; exact decide_eq_true h
 refine ⟨?_, h1⟩
 unfold rt3
 have := rt2_lt a
 rw [h1, if_pos rfl, if_pos ho, Nat.zero_mod, Nat.zero_add, Nat.mod_eq_of_lt (by omega)]
theorem rt3_evn (a : Nat) (h : rt2 a * rt2 a % PP = a) (ho : ¬ rt2 a % 2 = 1) : rt3 a = rt2 a ∧ Qy a = true := by
 have h1 : Qy a = true := by unfold Qy; exact decide_eq_true h
 refine ⟨?_, h1⟩
 unfold rt3
 rw [h1, if_pos rfl, if_neg ho]
theorem rt3_non (a : Nat) (h : ¬ rt2 a * rt2 a % PP = a) : 0 % PP = rt3 a ∧ Qy a = false := by
 have h1 : Qy a = false := by unfold Qy; exact decide_eq_false h
 refine ⟨?_, h1⟩
 unfold rt3
 rw [h1, if_neg (by decide), Nat.zero_mod]
theorem two_256 : 2 < 115792089237316195423570985008687907853269984665640564039457584007913129639936 := by decide
theorem froot_any (a : Nat) (ha : a < 115792089237316195423570985008687907853269984665640564039457584007913129639936) (w : World) :
 Calls Try.prog 44 #[.agg (e4 a)] w (RtP (a % PP) w) := by
 refine (enter (R := fun v w' => ∃ m : Nat, m < 115792089237316195423570985008687907853269984665640564039457584007913129639936 ∧ m % PP = rt3 (a % PP) ∧ v = .tuple #[.agg (e4 m), .bool (Qy (a % PP))] ∧ Below w.heap.size w w') qi Try.func44 rfl Try.ntmps44 rfl (St.start w) (vs := [.agg (e4 a)]) ?_).mono (fun e w' ⟨v, he, m, h1, h2, h3, h4⟩ => ⟨m, h1, h2, by rw [he, h3], h4⟩)
 intro b1 b2
 refine cut (α := Nat × Nat) (fun x => x.2 < 115792089237316195423570985008687907853269984665640564039457584007913129639936 ∧ x.2 % PP = rt1 (a % PP)) (fun x => ⟨[(1, pv b1), (2, pv b2), (4, pv x.1)], [cl b1 (e4 a) 36, cl b2 #[.int .u64 0, .int .u64 0, .int .u64 0, .int .u64 0] 36, cl x.1 (e4 x.2) 36], []⟩) ?_ ?_
 · refine drs [cl b1 (e4 a) 36] [] (.t 0 (.t 3 (.t 5 (.b 1 7 (.b 2 7 (.b 4 7 (.b 6 7 (.n 7 (.n 8 .nil)) (.n 6 (.n 8 .nil))) (.n 4 (.n 6 (.n 8 .nil)))) (.n 2 (.n 4 (.n 6 (.n 8 .nil))))) (.n 1 (.n 2 (.n 4 (.n 6 (.n 8 .nil))))))))) qi qq (by kernel_rfl) (.cons .nil) ?_
   refine ldN 0 rfl (qd _) ?_
   refine ldN 0 rfl (qd _) ?_
   refine ldN 0 rfl (qd _) ?_
   refine ⟨?_, ?_⟩
   · refine ce (fun w _ => ep (qaK a ha w)) (fun n1 hn1 => ?_)
     refine ⟨.cons .nil, ?_⟩
     refine ⟨?_, ?_⟩
     · refine ce (fun w _ => ep (qaG n1 hn1.1 w)) (fun n2 hn2 => ?_)
       refine ⟨.cons .nil, ?_⟩
       refine ⟨?_, ?_⟩
       · refine ce (fun w _ => ep (qL n2 a hn2.1 ha w)) (fun n3 hn3 => ?_)
         refine ⟨.cons .nil, ?_⟩
         refine ⟨?_, ?_⟩
         · refine ce (fun w _ => ep (qL n3 a hn3.1 ha w)) (fun n4 hn4 => ?_)
           refine ⟨.cons .nil, ?_⟩
           intro b4
           refine ⟨.cons .nil, ?_⟩
           refine sN 2 rfl (by rw [qd]; rfl) (QC _) ?_ (by kernel_rfl)
           refine ⟨.cons .nil, ?_⟩
           exact ⟨(b4, n4), ⟨hn4.1, qcU a n1 n2 n3 n4 hn1.2 hn2.2 hn3.2 hn4.2⟩, ⟨rfl, rfl, rfl, trivial⟩, .refl _, rfl⟩
         · intro b4
           refine ⟨.cons .nil, ?_⟩
           refine ce (fun w _ => ep (qL n3 a hn3.1 ha w)) (fun n4 hn4 => ?_)
           refine ⟨.cons .nil, ?_⟩
           refine sN 2 rfl (by rw [qd]; rfl) (QC _) ?_ (by kernel_rfl)
           refine ⟨.cons .nil, ?_⟩
           exact ⟨(b4, n4), ⟨hn4.1, qcU a n1 n2 n3 n4 hn1.2 hn2.2 hn3.2 hn4.2⟩, ⟨rfl, rfl, rfl, trivial⟩, .refl _, rfl⟩
       · intro b4
         refine ⟨.cons .nil, ?_⟩
         refine ce (fun w _ => ep (qL n2 a hn2.1 ha w)) (fun n3 hn3 => ?_)
         refine ⟨.cons .nil, ?_⟩
         refine ce (fun w _ => ep (qL n3 a hn3.1 ha w)) (fun n4 hn4 => ?_)
         refine ⟨.cons .nil, ?_⟩
         refine sN 2 rfl (by rw [qd]; rfl) (QC _) ?_ (by kernel_rfl)
         refine ⟨.cons .nil, ?_⟩
         exact ⟨(b4, n4), ⟨hn4.1, qcU a n1 n2 n3 n4 hn1.2 hn2.2 hn3.2 hn4.2⟩, ⟨rfl, rfl, rfl, trivial⟩, .refl _, rfl⟩
     · intro b4
       refine ⟨.cons .nil, ?_⟩
       refine ce (fun w _ => ep (qaG n1 hn1.1 w)) (fun n2 hn2 => ?_)
       refine ⟨.cons .nil, ?_⟩
       refine ce (fun w _ => ep (qL n2 a hn2.1 ha w)) (fun n3 hn3 => ?_)
       refine ⟨.cons .nil, ?_⟩
       refine ce (fun w _ => ep (qL n3 a hn3.1 ha w)) (fun n4 hn4 => ?_)
       refine ⟨.cons .nil, ?_⟩
       refine sN 2 rfl (by rw [qd]; rfl) (QC _) ?_ (by kernel_rfl)
       refine ⟨.cons .nil, ?_⟩
       exact ⟨(b4, n4), ⟨hn4.1, qcU a n1 n2 n3 n4 hn1.2 hn2.2 hn3.2 hn4.2⟩, ⟨rfl, rfl, rfl, trivial⟩, .refl _, rfl⟩
   · intro b4
     refine ⟨.cons .nil, ?_⟩
     refine ce (fun w _ => ep (qaK a ha w)) (fun n1 hn1 => ?_)
     refine ⟨.cons .nil, ?_⟩
     refine ce (fun w _ => ep (qaG n1 hn1.1 w)) (fun n2 hn2 => ?_)
     refine ⟨.cons .nil, ?_⟩
     refine ce (fun w _ => ep (qL n2 a hn2.1 ha w)) (fun n3 hn3 => ?_)
     refine ⟨.cons .nil, ?_⟩
     refine ce (fun w _ => ep (qL n3 a hn3.1 ha w)) (fun n4 hn4 => ?_)
     refine ⟨.cons .nil, ?_⟩
     refine sN 2 rfl (by rw [qd]; rfl) (QC _) ?_ (by kernel_rfl)
     refine ⟨.cons .nil, ?_⟩
     exact ⟨(b4, n4), ⟨hn4.1, qcU a n1 n2 n3 n4 hn1.2 hn2.2 hn3.2 hn4.2⟩, ⟨rfl, rfl, rfl, trivial⟩, .refl _, rfl⟩
 · rintro ⟨b4, n4⟩ ⟨hn4, hr1⟩
   dsimp only at hn4 hr1 ⊢
   refine drs [cl b1 (e4 a) 36, dead, cl b4 (e4 n4) 36] [] (.t 0 (.t 1 (.t 3 (.n 2 (.n 4 (.t 5 .nil)))))) qi qq (by kernel_rfl) (.cons (.dead (.cons .nil))) ?_
   refine ldN 2 rfl (qd _) ?_
   refine ldN 2 rfl (qd _) ?_
   refine ldN 0 rfl (qd _) ?_
   refine ce (fun w _ => ep (qL n4 n4 hn4 hn4 w)) (fun q1 hq1 => ?_)
   refine ⟨.cons (.dead (.cons .nil)), ?_⟩
   refine cv (fun w => is_any q1 a hq1.1 ha w) ?_
   refine ⟨.cons (.dead (.cons .nil)), ?_⟩
   have e1 : (q1 % PP = a % PP) = (rt1 (a % PP) * rt1 (a % PP) % PP = a % PP) := by rw [hq1.2, Nat.mul_mod, hr1]
   by_cases c1 : rt1 (a % PP) * rt1 (a % PP) % PP = a % PP
   · have hr2 : n4 % PP = rt2 (a % PP) := hr1.trans (rt2_yes _ c1).symm
     refine cf (by simp [e1, c1]) ?_
     refine drs [cl b1 (e4 a) 36, dead, cl b4 (e4 n4) 36] [] (.t 0 (.t 1 (.t 3 (.n 2 (.n 4 (.t 5 .nil)))))) qi qq (by kernel_rfl) (.cons (.dead (.cons .nil))) ?_
     refine ldN 2 rfl (qd _) ?_
     refine ldN 2 rfl (qd _) ?_
     refine ldN 0 rfl (qd _) ?_
     refine ce (fun w _ => ep (qL n4 n4 hn4 hn4 w)) (fun q2 hq2 => ?_)
     refine ⟨.cons (.dead (.cons .nil)), ?_⟩
     refine cv (fun w => is_any q2 a hq2.1 ha w) ?_
     refine ⟨.cons (.dead (.cons .nil)), ?_⟩
     have e2 : (q2 % PP = a % PP) = (rt2 (a % PP) * rt2 (a % PP) % PP = a % PP) := by rw [hq2.2, Nat.mul_mod, hr2]
     by_cases c2 : rt2 (a % PP) * rt2 (a % PP) % PP = a % PP
     · refine cf (by simp [e2, c2]) ?_
       refine ldN 2 rfl (qd _) ?_
       refine cv (fun w => qbE n4 hn4 w) ?_
       by_cases c3 : rt2 (a % PP) % 2 = 1
       · obtain ⟨f1, f2⟩ := rt3_odd _ c2 c3
         refine ct (by rw [hr2, c3]; rfl) ?_
         refine bu (c := e4 0) (by kernel_rfl) ?_
         refine ldN 2 rfl (qd _) ?_
         refine ce (fun w _ => ep (zE 0 n4 (by decide) hn4 w)) (fun m hm => ?_)
         refine sN 2 rfl (by rw [qd, qd]) (QC _) ?_ (by kernel_rfl)
         refine ldN 2 rfl (qd _) ?_
         refine sN 1 rfl (by rw [qd]; rfl) (QC _) ?_ (by kernel_rfl)
         refine ldN 1 rfl (qd _) ?_
         exact ⟨fun w1 hs => ⟨m, hm.1, by rw [hm.2, f1, hr2], by rw [f2]; rfl, hs.below⟩⟩
       · obtain ⟨f1, f2⟩ := rt3_evn _ c2 c3
         refine cf (by rw [hr2, show rt2 (a % PP) % 2 = 0 by omega]; rfl) ?_
         refine ldN 2 rfl (qd _) ?_
         refine sN 1 rfl (by rw [qd]; rfl) (QC _) ?_ (by kernel_rfl)
         refine ldN 1 rfl (qd _) ?_
         exact ⟨fun w1 hs => ⟨n4, hn4, by rw [f1, hr2], by rw [f2]; rfl, hs.below⟩⟩
     · obtain ⟨f1, f2⟩ := rt3_non _ c2
       refine ct (by simp [e2, c2]) ?_
       refine bu (c := e4 0) (by kernel_rfl) ?_
       refine sN 1 rfl (by rw [qd]; rfl) (QC _) ?_ (by kernel_rfl)
       refine ldN 1 rfl (qd _) ?_
       exact ⟨fun w1 hs => ⟨0, by decide, f1, by rw [f2]; rfl, hs.below⟩⟩
   · refine ct (by simp [e1, c1]) ?_
     refine cv (fun w => Z8 2 (by decide) w) ?_
     intro b5
     refine sN 3 rfl (by rw [qd]; rfl) (QC _) ?_ (by kernel_rfl)
     refine drs [dead, dead, cl b4 (e4 n4) 36, cl b5 (e4 2) 36] [10] (.t 0 (.t 1 (.t 4 (.t 7 (.n 2 (.n 3 (.n 5 (.n 6 (.n 8 (.n 9 (.n 10 .nil))))))))))) qi qq (by kernel_rfl) (.dead (.dead (.cons (.cons .nil)))) ?_
     refine ldN 2 rfl (qd _) ?_
     refine ldN 3 rfl (qd _) ?_
     refine ldN 3 rfl (qd _) ?_
     refine ldN 3 rfl (qd _) ?_
     refine ce (fun w _ => ep (qaK 2 two_256 w)) (fun n5 hn5 => ?_)
     refine ⟨.dead (.dead (.cons (.cons .nil))), ?_⟩
     refine ce (fun w _ => ep (squares_3 n5 hn5.1 w)) (fun n6 hn6 => ?_)
     refine ⟨.dead (.dead (.cons (.cons .nil))), ?_⟩
     refine ce (fun w _ => ep (z4 2 two_256 w)) (fun n7 hn7 => ?_)
     refine ⟨.dead (.dead (.cons (.cons .nil))), ?_⟩
     refine ce (fun w _ => ep (qL n6 n7 hn6.1 hn7.1 w)) (fun n8 hn8 => ?_)
     refine ⟨.dead (.dead (.cons (.cons .nil))), ?_⟩
     refine ce (fun w _ => ep (qL n8 2 hn8.1 two_256 w)) (fun n9 hn9 => ?_)
     refine ⟨.dead (.dead (.cons (.cons .nil))), ?_⟩
     refine ce (fun w _ => ep (qL n4 n9 hn4 hn9.1 w)) (fun n10 hn10 => ?_)
     refine ⟨.dead (.dead (.cons (.cons .nil))), ?_⟩
     have hr2 : n10 % PP = rt2 (a % PP) := (p_two (rt1 (a % PP)) n4 n5 n6 n7 n8 n9 n10 hr1 hn5.2 hn6.2 hn7.2 hn8.2 hn9.2 hn10.2).trans (rt2_no _ c1).symm
     have hn10 := hn10.1
     refine sN 2 rfl (by rw [qd, qd]) (QC _) ?_ (by kernel_rfl)
     refine drs [cl b1 (e4 a) 36, dead, cl b4 (e4 n10) 36] [] (.t 0 (.t 1 (.t 3 (.n 2 (.n 4 (.t 5 .nil)))))) qi qq (by kernel_rfl) (.cons (.dead (.cons .nil))) ?_
     refine ldN 2 rfl (qd _) ?_
     refine ldN 2 rfl (qd _) ?_
     refine ldN 0 rfl (qd _) ?_
     refine ce (fun w _ => ep (qL n10 n10 hn10 hn10 w)) (fun q2 hq2 => ?_)
     refine ⟨.cons (.dead (.cons .nil)), ?_⟩
     refine cv (fun w => is_any q2 a hq2.1 ha w) ?_
     refine ⟨.cons (.dead (.cons .nil)), ?_⟩
     have e2 : (q2 % PP = a % PP) = (rt2 (a % PP) * rt2 (a % PP) % PP = a % PP) := by rw [hq2.2, Nat.mul_mod, hr2]
     by_cases c2 : rt2 (a % PP) * rt2 (a % PP) % PP = a % PP
     · refine cf (by simp [e2, c2]) ?_
       refine ldN 2 rfl (qd _) ?_
       refine cv (fun w => qbE n10 hn10 w) ?_
       by_cases c3 : rt2 (a % PP) % 2 = 1
       · obtain ⟨f1, f2⟩ := rt3_odd _ c2 c3
         refine ct (by rw [hr2, c3]; rfl) ?_
         refine bu (c := e4 0) (by kernel_rfl) ?_
         refine ldN 2 rfl (qd _) ?_
         refine ce (fun w _ => ep (zE 0 n10 (by decide) hn10 w)) (fun m hm => ?_)
         refine sN 2 rfl (by rw [qd, qd]) (QC _) ?_ (by kernel_rfl)
         refine ldN 2 rfl (qd _) ?_
         refine sN 1 rfl (by rw [qd]; rfl) (QC _) ?_ (by kernel_rfl)
         refine ldN 1 rfl (qd _) ?_
         exact ⟨fun w1 hs => ⟨m, hm.1, by rw [hm.2, f1, hr2], by rw [f2]; rfl, hs.below⟩⟩
       · obtain ⟨f1, f2⟩ := rt3_evn _ c2 c3
         refine cf (by rw [hr2, show rt2 (a % PP) % 2 = 0 by omega]; rfl) ?_
         refine ldN 2 rfl (qd _) ?_
         refine sN 1 rfl (by rw [qd]; rfl) (QC _) ?_ (by kernel_rfl)
         refine ldN 1 rfl (qd _) ?_
         exact ⟨fun w1 hs => ⟨n10, hn10, by rw [f1, hr2], by rw [f2]; rfl, hs.below⟩⟩
     · obtain ⟨f1, f2⟩ := rt3_non _ c2
       refine ct (by simp [e2, c2]) ?_
       refine bu (c := e4 0) (by kernel_rfl) ?_
       refine sN 1 rfl (by rw [qd]; rfl) (QC _) ?_ (by kernel_rfl)
       refine ldN 1 rfl (qd _) ?_
       exact ⟨fun w1 hs => ⟨0, by decide, f1, by rw [f2]; rfl, hs.below⟩⟩
end
section
open Go.RowKit Go.Lib
theorem n256_32 : 256 ^ 32 = 115792089237316195423570985008687907853269984665640564039457584007913129639936 := by decide +kernel
theorem k32_eq (x y : Nat) (hx : x < 115792089237316195423570985008687907853269984665640564039457584007913129639936) (hy : y < 115792089237316195423570985008687907853269984665640564039457584007913129639936) (w : World) : (Op.equalIn 10000 24 (.agg (k32 x)) (.agg (k32 y))).run Try.prog w = .ok (decide (x = y)) w := by
 rw [← eqr_dg 256 32 x y (by rw [n256_32]; exact hx) (by rw [n256_32]; exact hy)]
 exact zR w 9998 24 5 32 .u8 Try.underlying24 Try.underlying5 sz_u8 _ _
theorem k32_same (x : Nat) (hx : x < 115792089237316195423570985008687907853269984665640564039457584007913129639936) (w : World) : (Op.equalIn 10000 24 (.agg (k32 x)) (.agg (k32 x))).run Try.prog w = .ok true w := by
 rw [k32_eq x x hx hx w, decide_eq_true rfl]
theorem PP_256 (b : Nat) (h : b < PP) : b < 115792089237316195423570985008687907853269984665640564039457584007913129639936 := by
 have : PP < 115792089237316195423570985008687907853269984665640564039457584007913129639936 := by decide +kernel
 omega
theorem fof_a (n a : Nat) (hn : n < 115792089237316195423570985008687907853269984665640564039457584007913129639936) (ha : a = n % 57896044618658097711785492504343953926634992332820282019728792003956564819968) (w : World) : Calls Try.prog 30 #[.agg (k32 n)] w fun e w' => e = .returned (.agg (e4 a)) ∧ Below w.heap.size w w' := by
 rw [ha]; exact of_any n hn w
end
section
open Go.RowKit Go.Lib
theorem ent51 : _root_.Go.Enters Try.prog 51 := ⟨_, Try.func51, by kernel_rfl, by kernel_rfl⟩
theorem ent52 : _root_.Go.Enters Try.prog 52 := ⟨_, Try.func52, by kernel_rfl, by kernel_rfl⟩
theorem ent87 : _root_.Go.Enters Try.prog 87 := ⟨_, Try.func87, by kernel_rfl, by kernel_rfl⟩
theorem ent88 : _root_.Go.Enters Try.prog 88 := ⟨_, Try.func88, by kernel_rfl, by kernel_rfl⟩
theorem ent89 : _root_.Go.Enters Try.prog 89 := ⟨_, Try.func89, by kernel_rfl, by kernel_rfl⟩
theorem ent90 : _root_.Go.Enters Try.prog 90 := ⟨_, Try.func90, by kernel_rfl, by kernel_rfl⟩
theorem ent91 : _root_.Go.Enters Try.prog 91 := ⟨_, Try.func91, by kernel_rfl, by kernel_rfl⟩
theorem qdQ : _root_.Go.Enters Try.prog 92 := ⟨_, Try.func92, by kernel_rfl, by kernel_rfl⟩
theorem ent93 : _root_.Go.Enters Try.prog 93 := ⟨_, Try.func93, by kernel_rfl, by kernel_rfl⟩
def qag (x y z1 : Nat) (b : Bool) (X Y Z : Nat) : Prop :=
 (x < 115792089237316195423570985008687907853269984665640564039457584007913129639936 ∧ y < 115792089237316195423570985008687907853269984665640564039457584007913129639936 ∧ z1 < 115792089237316195423570985008687907853269984665640564039457584007913129639936) ∧ (b = true ∧ x % PP = X ∧ y % PP = Y ∧ (z1 + 1) % PP = Z ∨ b = false ∧ 0 % PP = X ∧ 1 % PP = Y ∧ 1 % PP = Z)
def PlP (X Y Z : Nat) (w : World) (e : Ending) (w' : World) : Prop :=
 ∃ x y z : Nat, (x < 115792089237316195423570985008687907853269984665640564039457584007913129639936 ∧ y < 115792089237316195423570985008687907853269984665640564039457584007913129639936 ∧ z < 115792089237316195423570985008687907853269984665640564039457584007913129639936) ∧ (x % PP = X ∧ y % PP = Y ∧ z % PP = Z) ∧ e = .returned (.tuple #[.agg (e4 x), .agg (e4 y), .agg (e4 z)]) ∧ Below w.heap.size w w'
def PtP (X Y Z : Nat) (w : World) (e : Ending) (w' : World) : Prop :=
 ∃ (x y z1 : Nat) (b : Bool), qag x y z1 b X Y Z ∧ e = .returned (.agg (pt x y z1 b)) ∧ Below w.heap.size w w'
theorem qbU (x y z1 : Nat) (b : Bool) (X Y Z : Nat) (h : qag x y z1 b X Y Z) (w : World) :
 Calls Try.prog 90 #[.agg (pt x y z1 b)] w (PlP X Y Z w) := by
 obtain ⟨⟨hx, hy, hz⟩, hc⟩ := h
 have hint := fun w => Z8 1 (by decide) w
 have hpl := fun w => plus_any z1 1 hz (by decide) w
 have Hint := Lib.hid hint; clear hint
 have Hpl := Lib.hid hpl; clear hpl
 have Hx := Lib.hid hx; clear hx
 have Hy := Lib.hid hy; clear hy
 have Hz := Lib.hid hz; clear hz
 have Hc := Lib.hid hc; clear hc
 go_enter Try.func90, Try.ntmps90
 repeat ((fail_if_success (with_reducible (show wpList _ _ _ _ _ _))); go_step)
 iterate 4 (refine wpList_step (fun K hK => ?_); go_simp; (try go_bits); refine hK _ _ ?_; clear hK K)
 refine wpList_nil ?_
 have M1 := Lib.hid ((((Has.new w  (pt x y z1 b) 53).alloc (.cells (#[.int .u64 0, .int .u64 0, .int .u64 0, .int .u64 0] : Array Value) 36)).alloc (.cells (#[.int .u64 0, .int .u64 0, .int .u64 0, .int .u64 0] : Array Value) 36)).alloc (.cells (#[.int .u64 0, .int .u64 0, .int .u64 0, .int .u64 0] : Array Value) 36))
 have M2 := Lib.hid (((HasN.new1 w (.cells (pt x y z1 b) 53) (#[.int .u64 0, .int .u64 0, .int .u64 0, .int .u64 0] : Array Value) 36 4 (by kernel_rfl)).alloc (.cells (#[.int .u64 0, .int .u64 0, .int .u64 0, .int .u64 0] : Array Value) 36)).alloc (.cells (#[.int .u64 0, .int .u64 0, .int .u64 0, .int .u64 0] : Array Value) 36))
 have M3 := Lib.hid ((HasN.new2 w (.cells (pt x y z1 b) 53) (.cells (#[.int .u64 0, .int .u64 0, .int .u64 0, .int .u64 0] : Array Value) 36) (#[.int .u64 0, .int .u64 0, .int .u64 0, .int .u64 0] : Array Value) 36 4 (by kernel_rfl)).alloc (.cells (#[.int .u64 0, .int .u64 0, .int .u64 0, .int .u64 0] : Array Value) 36))
 have M4 := Lib.hid (HasN.new3 w (.cells (pt x y z1 b) 53) (.cells (#[.int .u64 0, .int .u64 0, .int .u64 0, .int .u64 0] : Array Value) 36) (.cells (#[.int .u64 0, .int .u64 0, .int .u64 0, .int .u64 0] : Array Value) 36) (#[.int .u64 0, .int .u64 0, .int .u64 0, .int .u64 0] : Array Value) 36 4 (by kernel_rfl))
 have HB := Lib.hid (qae w (.cells (pt x y z1 b) 53) (.cells (#[.int .u64 0, .int .u64 0, .int .u64 0, .int .u64 0] : Array Value) 36) (.cells (#[.int .u64 0, .int .u64 0, .int .u64 0, .int .u64 0] : Array Value) 36) (.cells (#[.int .u64 0, .int .u64 0, .int .u64 0, .int .u64 0] : Array Value) 36))
 obtain ⟨yw1, hwyw1⟩ : ∃ ww, ww = ((((w.alloc (.cells (pt x y z1 b) 53)).alloc (.cells (#[.int .u64 0, .int .u64 0, .int .u64 0, .int .u64 0] : Array Value) 36)).alloc (.cells (#[.int .u64 0, .int .u64 0, .int .u64 0, .int .u64 0] : Array Value) 36)).alloc (.cells (#[.int .u64 0, .int .u64 0, .int .u64 0, .int .u64 0] : Array Value) 36)) := ⟨_, rfl⟩
 rw [← hwyw1] at M1 M2 M3 M4 HB ⊢
 clear hwyw1
 repeat ((fail_if_success (with_reducible (show wpList _ _ _ _ _ _))); go_step)
 refine qm (by rfl) rfl rfl (by rfl) qdS (by rfl) (Hint.out _) 6 rfl ?_
 rintro e uw1 ⟨rfl, hb⟩
 replace M1 := Lib.hid (M1.out.call hb)
 replace M2 := Lib.hid (M2.out.call hb)
 replace M3 := Lib.hid (M3.out.call hb)
 replace M4 := Lib.hid (M4.out.call hb)
 replace HB := Lib.hid (qh HB.out hb)
 refine ⟨_, rfl, ?_⟩
 clear hb
 (try simp only [Act.put, sI, sS, sZ])
 refine qJ (by rfl) 36 rfl _ qcj 5 rfl ?_
 intro yw2 hw2
 have hlt3 := M1.out.lt
 have hlt4 := M2.out.lt
 have hlt5 := M3.out.lt
 have hlt6 := M4.out.lt
 have hsz := HB.out.size
 replace M1 := Lib.hid (M1.out.alloc (.cells z36 36))
 replace M2 := Lib.hid (M2.out.alloc (.cells z36 36))
 replace M3 := Lib.hid (M3.out.alloc (.cells z36 36))
 replace M4 := Lib.hid (M4.out.alloc (.cells z36 36))
 have M5 := Lib.hid (HasN.new uw1 z36 36 4 (by kernel_rfl))
 replace HB := Lib.hid (HB.out.alloc hsz (.cells z36 36))
 rw [← hw2] at M1 M2 M3 M4 M5 HB; clear hw2
 (try simp only [Act.put, sI, sS, sZ])
 first | (obtain ⟨Zq, hZ, mZ⟩ := M5.out) | (obtain ⟨Zq, hZ, mZ⟩ := M5.out.toN (qd ..))
 refine ql (by rfl) 36 _ _ rfl rfl (uw1.heap.size) (e4 1) rfl rfl 36 Zq mZ (by rw [qd]; kernel_rfl) (hZ.trans (qd ..).symm) (qp _ _ _) ?_
 intro yw7 hw2
 replace M1 := Lib.hid (M1.out.setRow_other (uw1.heap.size) (e4 1) (by omega))
 replace M2 := Lib.hid (M2.out.setRow_other (uw1.heap.size) (e4 1) (by omega))
 replace M3 := Lib.hid (M3.out.setRow_other (uw1.heap.size) (e4 1) (by omega))
 replace M4 := Lib.hid (M4.out.setRow_other (uw1.heap.size) (e4 1) (by omega))
 replace M5 := Lib.hid (mZ.setRow (e4 1))
 replace HB := Lib.hid (below_setRow HB.out (uw1.heap.size) (e4 1) (by omega))
 rw [← hw2] at M1 M2 M3 M4 M5 HB; clear mZ hZ hw2
 refine wpList_nil ?_
 repeat ((fail_if_success (with_reducible (show wpList _ _ _ _ _ _))); go_step)
 have hcw := pt_w M1.out
 iterate 3 (refine wpList_step (fun K hK => ?_); go_simp; (try go_bits); refine hK _ _ ?_; clear hK K)
 refine wpList_nil ?_
 clear hcw
 cases b
 · repeat ((fail_if_success (with_reducible (show wpList _ _ _ _ _ _))); go_step)
   refine wp_region_noPanic ?_
   refine q7 (fun w' => Has w' (uw1.heap.size) (e4 1) 36) 99 6 #[ff,ff,ff,ff,ff,ff] (by kernel_rfl) rfl rfl ?_
   replace M1 := Lib.hid (M1.out.drew)
   replace M2 := Lib.hid (M2.out.drew)
   replace M3 := Lib.hid (M3.out.drew)
   replace M4 := Lib.hid (M4.out.drew)
   replace M5 := Lib.hid (M5.out.drew)
   replace HB := Lib.hid (qN HB.out 1)
   obtain ⟨yw8, hwyw8⟩ : ∃ ww, ww = yw7.drew := ⟨_, rfl⟩
   rw [← hwyw8] at M1 M2 M3 M4 M5 ⊢
   have kq : Below w.heap.size w yw8 := by rw [hwyw8]; exact HB.out
   clear HB; have HB := Lib.hid kq; clear kq hwyw8
   refine qg 0 10 #[tt,ff,ff,ff,ff,ff] rfl rfl rfl (by kernel_rfl) (QT (by rfl) 36 _ rfl _ (by rfl) (e4 0) (bd36z)) (M5.out) ?_
   (try simp only [sI, sS, sZ])
   refine qg 1 11 #[tt,tt,ff,ff,ff,ff] rfl rfl rfl (by kernel_rfl) (qj (by rfl) 36 _ rfl (uw1.heap.size) rfl 36 (e4 1) (fun _ h => h) Try.underlying36 rfl (by rw [qd]; kernel_rfl)) (M5.out) ?_
   (try simp only [sI, sS, sZ])
   refine qg 2 12 #[tt,tt,tt,ff,ff,ff] rfl rfl rfl (by kernel_rfl) (qj (by rfl) 36 _ rfl (uw1.heap.size) rfl 36 (e4 1) (fun _ h => h) Try.underlying36 rfl (by rw [qd]; kernel_rfl)) (M5.out) ?_
   (try simp only [sI, sS, sZ])
   refine qk (i := 3) (by kernel_rfl) ?_
   first | (obtain ⟨Zq, hZ, mZ⟩ := M2.out) | (obtain ⟨Zq, hZ, mZ⟩ := M2.out.toN (qd ..))
   refine qZ 3 #[tt,tt,tt,tt,ff,ff] rfl rfl rfl (by rfl) 36 _ _ rfl (w.heap.size + 1) (e4 0) rfl rfl 36 Zq mZ (by rw [qd]; kernel_rfl) (hZ.trans (qd ..).symm) (qp _ _ _) ?_
   intro yw9 hw2
   replace M1 := Lib.hid (M1.out.setRow_other (w.heap.size + 1) (e4 0) (by omega))
   replace M3 := Lib.hid (M3.out.setRow_other (w.heap.size + 1) (e4 0) (by omega))
   replace M4 := Lib.hid (M4.out.setRow_other (w.heap.size + 1) (e4 0) (by omega))
   replace M5 := Lib.hid (M5.out.setRow_other (w.heap.size + 1) (e4 0) (by omega))
   replace M2 := Lib.hid (mZ.setRow (e4 0))
   replace HB := Lib.hid (below_setRow HB.out (w.heap.size + 1) (e4 0) (by omega))
   rw [← hw2] at M1 M3 M4 M5 M2 HB; clear mZ hZ hw2
   refine ⟨fun _ => M5.out, ?_⟩
   (try simp only [sI, sS, sZ])
   refine qk (i := 4) (by kernel_rfl) ?_
   first | (obtain ⟨Zq, hZ, mZ⟩ := M3.out) | (obtain ⟨Zq, hZ, mZ⟩ := M3.out.toN (qd ..))
   refine qZ 4 #[tt,tt,tt,tt,tt,ff] rfl rfl rfl (by rfl) 36 _ _ rfl (w.heap.size + 1 + 1) (e4 1) rfl rfl 36 Zq mZ (by rw [qd]; kernel_rfl) (hZ.trans (qd ..).symm) (qp _ _ _) ?_
   intro yw10 hw2
   replace M1 := Lib.hid (M1.out.setRow_other (w.heap.size + 1 + 1) (e4 1) (by omega))
   replace M2 := Lib.hid (M2.out.setRow_other (w.heap.size + 1 + 1) (e4 1) (by omega))
   replace M4 := Lib.hid (M4.out.setRow_other (w.heap.size + 1 + 1) (e4 1) (by omega))
   replace M5 := Lib.hid (M5.out.setRow_other (w.heap.size + 1 + 1) (e4 1) (by omega))
   replace M3 := Lib.hid (mZ.setRow (e4 1))
   replace HB := Lib.hid (below_setRow HB.out (w.heap.size + 1 + 1) (e4 1) (by omega))
   rw [← hw2] at M1 M2 M4 M5 M3 HB; clear mZ hZ hw2
   refine ⟨fun _ => M5.out, ?_⟩
   (try simp only [sI, sS, sZ])
   refine qk (i := 5) (by kernel_rfl) ?_
   first | (obtain ⟨Zq, hZ, mZ⟩ := M4.out) | (obtain ⟨Zq, hZ, mZ⟩ := M4.out.toN (qd ..))
   refine qZ 5 #[tt,tt,tt,tt,tt,tt] rfl rfl rfl (by rfl) 36 _ _ rfl (w.heap.size + 1 + 1 + 1) (e4 1) rfl rfl 36 Zq mZ (by rw [qd]; kernel_rfl) (hZ.trans (qd ..).symm) (qp _ _ _) ?_
   intro yw11 hw2
   replace M1 := Lib.hid (M1.out.setRow_other (w.heap.size + 1 + 1 + 1) (e4 1) (by omega))
   replace M2 := Lib.hid (M2.out.setRow_other (w.heap.size + 1 + 1 + 1) (e4 1) (by omega))
   replace M3 := Lib.hid (M3.out.setRow_other (w.heap.size + 1 + 1 + 1) (e4 1) (by omega))
   replace M5 := Lib.hid (M5.out.setRow_other (w.heap.size + 1 + 1 + 1) (e4 1) (by omega))
   replace M4 := Lib.hid (mZ.setRow (e4 1))
   replace HB := Lib.hid (below_setRow HB.out (w.heap.size + 1 + 1 + 1) (e4 1) (by omega))
   rw [← hw2] at M1 M2 M3 M5 M4 HB; clear mZ hZ hw2
   refine ⟨fun _ => M5.out, ?_⟩
   (try simp only [sI, sS, sZ])
   refine qu (by kernel_rfl) (NoPanic.normal ?_)
   have hr := Hc.out.resolve_left (by simp)
   go_wp2_with fail
   exact bodyPost_ret (v := .tuple #[.agg (e4 0), .agg (e4 1), .agg (e4 1)]) (qa1 (fn := Try.f90) (p := 2) (q := 3) (r := 4) (ty := 36) (by rfl) _ _ (w.heap.size + 1) (w.heap.size + 1 + 1) (w.heap.size + 1 + 1 + 1) 36 36 36 _ _ _ _ rfl rfl rfl M2.out M3.out M4.out Try.underlying36 rfl (by rw [qd]; kernel_rfl) (by rw [qd]; kernel_rfl) (by rw [qd]; kernel_rfl)) rfl ⟨0, 1, 1, ⟨by decide, by decide, by decide⟩, ⟨hr.2.1, hr.2.2.1, hr.2.2.2⟩, rfl, HB.out⟩
 · repeat ((fail_if_success (with_reducible (show wpList _ _ _ _ _ _))); go_step)
   refine wp_region_noPanic ?_
   refine q7 (fun w' => Has w' (w.heap.size) (pt x y z1 true) 53 ∧ Has w' (uw1.heap.size) (e4 1) 36) 99 11 #[ff,ff,ff,ff,ff,ff,ff,ff,ff,ff,ff] (by kernel_rfl) rfl rfl ?_
   replace M1 := Lib.hid (M1.out.drew)
   replace M2 := Lib.hid (M2.out.drew)
   replace M3 := Lib.hid (M3.out.drew)
   replace M4 := Lib.hid (M4.out.drew)
   replace M5 := Lib.hid (M5.out.drew)
   replace HB := Lib.hid (qN HB.out 1)
   obtain ⟨yw8, hwyw8⟩ : ∃ ww, ww = yw7.drew := ⟨_, rfl⟩
   rw [← hwyw8] at M1 M2 M3 M4 M5 ⊢
   have kq : Below w.heap.size w yw8 := by rw [hwyw8]; exact HB.out
   clear HB; have HB := Lib.hid kq; clear kq hwyw8
   refine qg 0 13 #[tt,ff,ff,ff,ff,ff,ff,ff,ff,ff,ff] (v := ?uv1) rfl rfl rfl (by kernel_rfl) (Or.inl ⟨by rfl, ?uy1⟩) (⟨M1.out, M5.out⟩) ?urest1
   case uy1 => (intro _ _; go_simp; try with_reducible rfl)
   (try simp only [sI, sS, sZ])
   refine qg 1 14 #[tt,tt,ff,ff,ff,ff,ff,ff,ff,ff,ff] rfl rfl rfl (by kernel_rfl) (qS (by rfl) 36 _ rfl (w.heap.size) 0 rfl (e4l x) (e4 x) rfl (fun _ h => pt_x h.1) _ Try.underlying36 rfl (by rw [Zz]; kernel_rfl)) (⟨M1.out, M5.out⟩) ?_
   (try simp only [sI, sS, sZ])
   refine qg 2 15 #[tt,tt,tt,ff,ff,ff,ff,ff,ff,ff,ff] (v := ?uv2) rfl rfl rfl (by kernel_rfl) (Or.inl ⟨by rfl, ?uy2⟩) (⟨M1.out, M5.out⟩) ?urest2
   case uy2 => (intro _ _; go_simp; try with_reducible rfl)
   (try simp only [sI, sS, sZ])
   refine qg 3 16 #[tt,tt,tt,tt,ff,ff,ff,ff,ff,ff,ff] rfl rfl rfl (by kernel_rfl) (qS (by rfl) 36 _ rfl (w.heap.size) 4 rfl (e4l y) (e4 y) rfl (fun _ h => pt_y h.1) _ Try.underlying36 rfl (by rw [Zz]; kernel_rfl)) (⟨M1.out, M5.out⟩) ?_
   (try simp only [sI, sS, sZ])
   refine qg 4 17 #[tt,tt,tt,tt,tt,ff,ff,ff,ff,ff,ff] (v := ?uv3) rfl rfl rfl (by kernel_rfl) (Or.inl ⟨by rfl, ?uy3⟩) (⟨M1.out, M5.out⟩) ?urest3
   case uy3 => (intro _ _; go_simp; try with_reducible rfl)
   (try simp only [sI, sS, sZ])
   refine qg 5 18 #[tt,tt,tt,tt,tt,tt,ff,ff,ff,ff,ff] rfl rfl rfl (by kernel_rfl) (qS (by rfl) 36 _ rfl (w.heap.size) 8 rfl (e4l z1) (e4 z1) rfl (fun _ h => pt_z h.1) _ Try.underlying36 rfl (by rw [Zz]; kernel_rfl)) (⟨M1.out, M5.out⟩) ?_
   (try simp only [sI, sS, sZ])
   refine qg 6 19 #[tt,tt,tt,tt,tt,tt,tt,ff,ff,ff,ff] rfl rfl rfl (by kernel_rfl) (qj (by rfl) 36 _ rfl (uw1.heap.size) rfl 36 (e4 1) (fun _ h => h.2) Try.underlying36 rfl (by rw [qd]; kernel_rfl)) (⟨M1.out, M5.out⟩) ?_
   (try simp only [sI, sS, sZ])
   refine qk (i := 7) (by kernel_rfl) ?_
   refine qE 7 20 #[tt,tt,tt,tt,tt,tt,tt,tt,ff,ff,ff] rfl rfl rfl (by rfl) rfl rfl (by rfl) ent37 (by rfl) (Hpl.out _) ?_
   rintro e uw2 ⟨m, hm, hmr, rfl, hb⟩
   replace M1 := Lib.hid (M1.out.call hb)
   replace M2 := Lib.hid (M2.out.call hb)
   replace M3 := Lib.hid (M3.out.call hb)
   replace M4 := Lib.hid (M4.out.call hb)
   replace M5 := Lib.hid (M5.out.call hb)
   replace HB := Lib.hid (qh HB.out hb)
   refine ⟨_, rfl, fun _ => ⟨M1.out, M5.out⟩, ?_⟩
   clear hb
   (try simp only [sI, sS, sZ])
   refine qk (i := 8) (by kernel_rfl) ?_
   first | (obtain ⟨Zq, hZ, mZ⟩ := M2.out) | (obtain ⟨Zq, hZ, mZ⟩ := M2.out.toN (qd ..))
   refine qZ 8 #[tt,tt,tt,tt,tt,tt,tt,tt,tt,ff,ff] rfl rfl rfl (by rfl) 36 _ _ rfl (w.heap.size + 1) (e4 x) rfl rfl 36 Zq mZ (by rw [qd]; kernel_rfl) (hZ.trans (qd ..).symm) (qp _ _ _) ?_
   intro yw9 hw2
   replace M1 := Lib.hid (M1.out.setRow_other (w.heap.size + 1) (e4 x) (by omega))
   replace M3 := Lib.hid (M3.out.setRow_other (w.heap.size + 1) (e4 x) (by omega))
   replace M4 := Lib.hid (M4.out.setRow_other (w.heap.size + 1) (e4 x) (by omega))
   replace M5 := Lib.hid (M5.out.setRow_other (w.heap.size + 1) (e4 x) (by omega))
   replace M2 := Lib.hid (mZ.setRow (e4 x))
   replace HB := Lib.hid (below_setRow HB.out (w.heap.size + 1) (e4 x) (by omega))
   rw [← hw2] at M1 M3 M4 M5 M2 HB; clear mZ hZ hw2
   refine ⟨fun _ => ⟨M1.out, M5.out⟩, ?_⟩
   (try simp only [sI, sS, sZ])
   refine qk (i := 9) (by kernel_rfl) ?_
   first | (obtain ⟨Zq, hZ, mZ⟩ := M3.out) | (obtain ⟨Zq, hZ, mZ⟩ := M3.out.toN (qd ..))
   refine qZ 9 #[tt,tt,tt,tt,tt,tt,tt,tt,tt,tt,ff] rfl rfl rfl (by rfl) 36 _ _ rfl (w.heap.size + 1 + 1) (e4 y) rfl rfl 36 Zq mZ (by rw [qd]; kernel_rfl) (hZ.trans (qd ..).symm) (qp _ _ _) ?_
   intro yw10 hw2
   replace M1 := Lib.hid (M1.out.setRow_other (w.heap.size + 1 + 1) (e4 y) (by omega))
   replace M2 := Lib.hid (M2.out.setRow_other (w.heap.size + 1 + 1) (e4 y) (by omega))
   replace M4 := Lib.hid (M4.out.setRow_other (w.heap.size + 1 + 1) (e4 y) (by omega))
   replace M5 := Lib.hid (M5.out.setRow_other (w.heap.size + 1 + 1) (e4 y) (by omega))
   replace M3 := Lib.hid (mZ.setRow (e4 y))
   replace HB := Lib.hid (below_setRow HB.out (w.heap.size + 1 + 1) (e4 y) (by omega))
   rw [← hw2] at M1 M2 M4 M5 M3 HB; clear mZ hZ hw2
   refine ⟨fun _ => ⟨M1.out, M5.out⟩, ?_⟩
   (try simp only [sI, sS, sZ])
   refine qk (i := 10) (by kernel_rfl) ?_
   first | (obtain ⟨Zq, hZ, mZ⟩ := M4.out) | (obtain ⟨Zq, hZ, mZ⟩ := M4.out.toN (qd ..))
   refine qZ 10 #[tt,tt,tt,tt,tt,tt,tt,tt,tt,tt,tt] rfl rfl rfl (by rfl) 36 _ _ rfl (w.heap.size + 1 + 1 + 1) (e4 m) rfl rfl 36 Zq mZ (by rw [qd]; kernel_rfl) (hZ.trans (qd ..).symm) (qp _ _ _) ?_
   intro yw11 hw2
   replace M1 := Lib.hid (M1.out.setRow_other (w.heap.size + 1 + 1 + 1) (e4 m) (by omega))
   replace M2 := Lib.hid (M2.out.setRow_other (w.heap.size + 1 + 1 + 1) (e4 m) (by omega))
   replace M3 := Lib.hid (M3.out.setRow_other (w.heap.size + 1 + 1 + 1) (e4 m) (by omega))
   replace M5 := Lib.hid (M5.out.setRow_other (w.heap.size + 1 + 1 + 1) (e4 m) (by omega))
   replace M4 := Lib.hid (mZ.setRow (e4 m))
   replace HB := Lib.hid (below_setRow HB.out (w.heap.size + 1 + 1 + 1) (e4 m) (by omega))
   rw [← hw2] at M1 M2 M3 M5 M4 HB; clear mZ hZ hw2
   refine ⟨fun _ => ⟨M1.out, M5.out⟩, ?_⟩
   (try simp only [sI, sS, sZ])
   refine qu (by kernel_rfl) (NoPanic.normal ?_)
   have hr := Hc.out.resolve_right (by simp)
   go_wp2_with fail
   exact bodyPost_ret (v := .tuple #[.agg (e4 x), .agg (e4 y), .agg (e4 m)]) (qa1 (fn := Try.f90) (p := 2) (q := 3) (r := 4) (ty := 36) (by rfl) _ _ (w.heap.size + 1) (w.heap.size + 1 + 1) (w.heap.size + 1 + 1 + 1) 36 36 36 _ _ _ _ rfl rfl rfl M2.out M3.out M4.out Try.underlying36 rfl (by rw [qd]; kernel_rfl) (by rw [qd]; kernel_rfl) (by rw [qd]; kernel_rfl)) rfl ⟨x, y, m, ⟨Hx.out, Hy.out, hm⟩, ⟨hr.2.1, hr.2.2.1, hmr.trans hr.2.2.2⟩, rfl, HB.out⟩
end
section
open Go.RowKit Go.Lib
theorem made_res (z m : Nat) (h : m % PP = (z % PP + (PP - 1 % PP)) % PP) : (m + 1) % PP = z % PP := by
 have h1 : 1 % PP = 1 := Nat.mod_eq_of_lt (by have := QB; omega)
 have hp : 1 < PP := by have := QB; omega
 rw [h1] at h
 rw [mo_add_l m _ 1 h, Nat.add_assoc, show PP - 1 + 1 = PP by omega, Nat.add_mod_right, Nat.mod_mod]
theorem made_any (x y z : Nat) (hx : x < 115792089237316195423570985008687907853269984665640564039457584007913129639936) (hy : y < 115792089237316195423570985008687907853269984665640564039457584007913129639936) (hz : z < 115792089237316195423570985008687907853269984665640564039457584007913129639936) (w : World) :
 Calls Try.prog 93 #[.agg (e4 x), .agg (e4 y), .agg (e4 z)] w (PtP (x % PP) (y % PP) (z % PP) w) := by
 have hint := fun w => Z8 1 (by decide) w
 have hmi := fun w => zE z 1 hz (by decide) w
 have Hint := Lib.hid hint; clear hint
 have Hmi := Lib.hid hmi; clear hmi
 have Hx := Lib.hid hx; clear hx
 have Hy := Lib.hid hy; clear hy
 have Hz := Lib.hid hz; clear hz
 go_enter Try.func93, Try.ntmps93
 repeat ((fail_if_success (with_reducible (show wpList _ _ _ _ _ _))); go_step)
 iterate 4 (refine wpList_step (fun K hK => ?_); go_simp; (try go_bits); refine hK _ _ ?_; clear hK K)
 refine wpList_nil ?_
 have M3 := Lib.hid ((((Has.new w  (e4 x) 36).alloc (.cells (e4 y) 36)).alloc (.cells (e4 z) 36)).alloc (.cells (#[.int .u64 0, .int .u64 0, .int .u64 0, .int .u64 0, .int .u64 0, .int .u64 0, .int .u64 0, .int .u64 0, .int .u64 0, .int .u64 0, .int .u64 0, .int .u64 0, .bool false] : Array Value) 53))
 have M4 := Lib.hid (((Has.new1 w (.cells (e4 x) 36) (e4 y) 36).alloc (.cells (e4 z) 36)).alloc (.cells (#[.int .u64 0, .int .u64 0, .int .u64 0, .int .u64 0, .int .u64 0, .int .u64 0, .int .u64 0, .int .u64 0, .int .u64 0, .int .u64 0, .int .u64 0, .int .u64 0, .bool false] : Array Value) 53))
 have M5 := Lib.hid ((Has.new2 w (.cells (e4 x) 36) (.cells (e4 y) 36) (e4 z) 36).alloc (.cells (#[.int .u64 0, .int .u64 0, .int .u64 0, .int .u64 0, .int .u64 0, .int .u64 0, .int .u64 0, .int .u64 0, .int .u64 0, .int .u64 0, .int .u64 0, .int .u64 0, .bool false] : Array Value) 53))
 have M6 := Lib.hid (HasN.new3 w (.cells (e4 x) 36) (.cells (e4 y) 36) (.cells (e4 z) 36) (#[.int .u64 0, .int .u64 0, .int .u64 0, .int .u64 0, .int .u64 0, .int .u64 0, .int .u64 0, .int .u64 0, .int .u64 0, .int .u64 0, .int .u64 0, .int .u64 0, .bool false] : Array Value) 53 13 (by kernel_rfl))
 have HB := Lib.hid (qae w (.cells (e4 x) 36) (.cells (e4 y) 36) (.cells (e4 z) 36) (.cells (#[.int .u64 0, .int .u64 0, .int .u64 0, .int .u64 0, .int .u64 0, .int .u64 0, .int .u64 0, .int .u64 0, .int .u64 0, .int .u64 0, .int .u64 0, .int .u64 0, .bool false] : Array Value) 53))
 obtain ⟨yw1, hwyw1⟩ : ∃ ww, ww = ((((w.alloc (.cells (e4 x) 36)).alloc (.cells (e4 y) 36)).alloc (.cells (e4 z) 36)).alloc (.cells (#[.int .u64 0, .int .u64 0, .int .u64 0, .int .u64 0, .int .u64 0, .int .u64 0, .int .u64 0, .int .u64 0, .int .u64 0, .int .u64 0, .int .u64 0, .int .u64 0, .bool false] : Array Value) 53)) := ⟨_, rfl⟩
 rw [← hwyw1] at M3 M4 M5 M6 HB ⊢
 clear hwyw1
 repeat ((fail_if_success (with_reducible (show wpList _ _ _ _ _ _))); go_step)
 refine wp_region_noPanic ?_
 refine Qm 6 7 #[ff,ff,ff,ff,ff,ff,ff] (by kernel_rfl) rfl rfl ?_
 intro W2 hW2
 rw [← hW2] at M3 M4 M5 M6 HB
 clear hW2
 have M6N := Lib.hid (by first | exact M6.out | exact M6.out.toN (by first | exact qd _ | exact qe _ | exact qf _ | exact qs .. | exact qA ..) : HasN W2 (w.heap.size + 1 + 1 + 1) _ _)
 refine qg 0 7 #[tt,ff,ff,ff,ff,ff,ff] rfl rfl rfl (by kernel_rfl) (qj (by rfl) 36 _ rfl (w.heap.size) rfl 36 (e4 x) (fun _ h => M3.out.below h M3.out.lt) Try.underlying36 rfl (by rw [qd]; kernel_rfl)) ((qt W2)) ?_
 (try simp only [sI, sS, sZ])
 refine qg 1 8 #[tt,tt,ff,ff,ff,ff,ff] rfl rfl rfl (by kernel_rfl) (qj (by rfl) 36 _ rfl (w.heap.size + 1) rfl 36 (e4 y) (fun _ h => M4.out.below h M4.out.lt) Try.underlying36 rfl (by rw [qd]; kernel_rfl)) ((qt W2)) ?_
 (try simp only [sI, sS, sZ])
 refine qg 2 9 #[tt,tt,tt,ff,ff,ff,ff] rfl rfl rfl (by kernel_rfl) (qj (by rfl) 36 _ rfl (w.heap.size + 1 + 1) rfl 36 (e4 z) (fun _ h => M5.out.below h M5.out.lt) Try.underlying36 rfl (by rw [qd]; kernel_rfl)) ((qt W2)) ?_
 (try simp only [sI, sS, sZ])
 refine qk (i := 3) (by kernel_rfl) ?_
 refine qE 3 10 #[tt,tt,tt,tt,ff,ff,ff] rfl rfl rfl (by rfl) rfl rfl (by rfl) qdS (by rfl) (Hint.out _) ?_
 rintro e wW21 ⟨rfl, hb⟩
 have hkW21 := qh (qt W2) hb
 refine ⟨_, rfl, fun _ => hkW21, ?_⟩
 clear hb
 (try simp only [sI, sS, sZ])
 refine qk (i := 4) (by kernel_rfl) ?_
 refine qE 4 11 #[tt,tt,tt,tt,tt,ff,ff] rfl rfl rfl (by rfl) rfl rfl (by rfl) ent39 (by rfl) (Hmi.out _) ?_
 rintro e wW22 ⟨m, hm, hmr, rfl, hb⟩
 have hkW22 := qh hkW21 hb
 refine ⟨_, rfl, fun _ => hkW22, ?_⟩
 clear hb
 (try simp only [sI, sS, sZ])
 refine qg 5 12 #[tt,tt,tt,tt,tt,tt,ff] rfl rfl rfl (by kernel_rfl) (QT (by rfl) 53 _ rfl _ (by rfl) (pt x y m true) (bd53 x y m true)) (hkW22) ?_
 (try simp only [sI, sS, sZ])
 refine qk (i := 6) (by kernel_rfl) ?_
 obtain ⟨Zq, hZ, mZ⟩ := M6N.out.below hkW22 M6N.out.lt
 have MZ := Lib.hid mZ; clear mZ
 have HZ := Lib.hid hZ; clear hZ
 refine ZM 6 #[tt,tt,tt,tt,tt,tt,tt] rfl rfl rfl (by rfl) 53 _ _ rfl (w.heap.size + 1 + 1 + 1) _ rfl rfl 53 Zq MZ.out (by rw [qs]; kernel_rfl) (HZ.out.trans (qs ..).symm) (QK _ _ _ _) ⟨fun h => (h rfl).elim, ?_⟩
 (try simp only [sI, sS, sZ])
 refine qu (by kernel_rfl) (NoPanic.normal ?_)
 replace M3 := Lib.hid ((M3.out.call hkW22).setRow_other (w.heap.size + 1 + 1 + 1) (pt x y m true) (by omega))
 replace M4 := Lib.hid ((M4.out.call hkW22).setRow_other (w.heap.size + 1 + 1 + 1) (pt x y m true) (by omega))
 replace M5 := Lib.hid ((M5.out.call hkW22).setRow_other (w.heap.size + 1 + 1 + 1) (pt x y m true) (by omega))
 clear M6 M6N
 have M6 := Lib.hid (MZ.out.setRow (pt x y m true)); clear MZ HZ
 replace HB := Lib.hid (below_setRow (qh HB.out hkW22) (w.heap.size + 1 + 1 + 1) (pt x y m true) (by omega))
 obtain ⟨yw3, hwyw3⟩ : ∃ ww, ww = wW22.setRow (w.heap.size + 1 + 1 + 1) (pt x y m true) := ⟨_, rfl⟩
 rw [← hwyw3] at M3 M4 M5 M6 HB ⊢
 clear hwyw3
 go_wp2_with fail
 exact bodyPost_ret (v := .agg (pt x y m true)) (results_cell_row (t := 53) (by rfl) _ _ (w.heap.size + 1 + 1 + 1) _ _ _ rfl M6.out Try.underlying53 rfl (by rw [qs]; kernel_rfl)) rfl ⟨x, y, m, true, ⟨⟨Hx.out, Hy.out, hm⟩, .inl ⟨rfl, rfl, rfl, made_res z m hmr⟩⟩, rfl, HB.out⟩
def SL : Nat := 37095705934669439343138083508754565189542113879843219016388785533085940283555
theorem SL_lt : SL < PP := by decide +kernel
theorem slope_pm : (PP - 121665) * Nm.pm PP 256 121666 (PP - 2) % PP = SL := by decide +kernel
theorem pp2_lt : PP - 2 < 2 ^ 256 := by decide +kernel
theorem slope_res (m1 m : Nat) (h1 : m1 % PP = PP - 121665) (h : m % PP = m1 * pwm 121666 (PP - 2) % PP) : m % PP = SL := by
 rw [h, mo_mul_l m1 (PP - 121665) _ (by rw [h1, Nat.mod_eq_of_lt (by have := QB; omega)]), qbT _ _ pp2_lt, slope_pm]
theorem qbN (w : World) : Calls Try.prog 91 #[] w (ElP SL w) := by
 have hneg := fun w => fint_neg (-121665) (by omega) (by omega) w
 rw [show ((-121665) % (PP : Int)).toNat = PP - 121665 by decide +kernel] at hneg
 have hint := fun w => Z8 121666 (by decide) w
 have hov := fun x hx w => qbv x 121666 hx (by decide) w
 have hres := slope_res
 have Hint := Lib.hid hint; clear hint
 have Hneg := Lib.hid hneg; clear hneg
 have Hov := Lib.hid hov; clear hov
 have Hres := Lib.hid hres; clear hres
 go_enter Try.func91, Try.ntmps91
 repeat ((fail_if_success (with_reducible (show wpList _ _ _ _ _ _))); go_step)
 (refine wpList_step (fun K hK => ?_); go_simp; (try go_bits); refine hK _ _ ?_; clear hK K)
 refine wpList_nil ?_
 have M0 := Lib.hid (HasN.new w  (#[.int .u64 0, .int .u64 0, .int .u64 0, .int .u64 0] : Array Value) 36 4 (by kernel_rfl))
 have HB := Lib.hid (Qc w (.cells (#[.int .u64 0, .int .u64 0, .int .u64 0, .int .u64 0] : Array Value) 36))
 obtain ⟨yw1, hwyw1⟩ : ∃ ww, ww = (w.alloc (.cells (#[.int .u64 0, .int .u64 0, .int .u64 0, .int .u64 0] : Array Value) 36)) := ⟨_, rfl⟩
 rw [← hwyw1] at M0 HB ⊢
 clear hwyw1
 repeat ((fail_if_success (with_reducible (show wpList _ _ _ _ _ _))); go_step)
 refine qm (by rfl) rfl rfl (by rfl) qdS (by rfl) (Hneg.out _) 1 rfl ?_
 rintro e uw1 ⟨m1, hm1, hm1r, rfl, hb⟩
 replace M0 := Lib.hid (M0.out.call hb)
 replace HB := Lib.hid (qh HB.out hb)
 refine ⟨_, rfl, ?_⟩
 clear hb
 (try simp only [Act.put, sI, sS, sZ])
 refine qm (by rfl) rfl rfl (by rfl) qdS (by rfl) (Hint.out _) 2 rfl ?_
 rintro e uw2 ⟨rfl, hb⟩
 replace M0 := Lib.hid (M0.out.call hb)
 replace HB := Lib.hid (qh HB.out hb)
 refine ⟨_, rfl, ?_⟩
 clear hb
 (try simp only [Act.put, sI, sS, sZ])
 refine qm (by rfl) rfl rfl (by rfl) ent42 (by rfl) (Hov.out m1 hm1 _) 3 rfl ?_
 rintro e uw3 ⟨m, hm, hmr, rfl, hb⟩
 replace M0 := Lib.hid (M0.out.call hb)
 replace HB := Lib.hid (qh HB.out hb)
 refine ⟨_, rfl, ?_⟩
 clear hb
 (try simp only [Act.put, sI, sS, sZ])
 first | (obtain ⟨Zq, hZ, mZ⟩ := M0.out) | (obtain ⟨Zq, hZ, mZ⟩ := M0.out.toN (qd ..))
 refine ql (by rfl) 36 _ _ rfl rfl (w.heap.size) (e4 m) rfl rfl 36 Zq mZ (by rw [qd]; kernel_rfl) (hZ.trans (qd ..).symm) (qp _ _ _) ?_
 intro yw2 hw2
 replace M0 := Lib.hid (mZ.setRow (e4 m))
 replace HB := Lib.hid (below_setRow HB.out (w.heap.size) (e4 m) (by omega))
 rw [← hw2] at M0 HB; clear mZ hZ hw2
 refine wpList_nil ?_
 have hfin := Hres.out m1 m hm1r hmr
 go_wp2_with fail
 exact bodyPost_ret (v := .agg (e4 m)) (results_cell_row (t := 36) (by rfl) _ _ (w.heap.size) _ _ _ rfl M0.out Try.underlying36 rfl (by rw [qd]; kernel_rfl)) rfl ⟨m, hm, hfin, rfl, HB.out⟩
end
section
open Go.RowKit Go.Lib
theorem or_128 (a : Nat) (h : a < 128) : bits .or .u8 (a : Int) 128 = (a : Int) + 128 := by
 have : (List.range 128).all (fun a => bits .or .u8 (a : Int) 128 == (a : Int) + 128) = true := by decide +kernel
 simpa using List.all_eq_true.1 this a (by simpa using h)
theorem qdc (n : Nat) (h : n < 57896044618658097711785492504343953926634992332820282019728792003956564819968) : ∃ c : Nat, dg 256 n 31 = (c : Int) ∧ c < 128 := by
 refine ⟨n / 256 ^ 31 % 256, rfl, ?_⟩
 rw [show (256 : Nat) ^ 31 = 452312848583266388373324160190187140051835877600158453279131187530910662656 by decide +kernel]
 omega
theorem key_top (n : Nat) (h : n < 57896044618658097711785492504343953926634992332820282019728792003956564819968) (x : Int) (hx : x = dg 256 n 31 + 128) : row .u8 32 (upd (dg 256 n) 31 x) = k32 (n + 57896044618658097711785492504343953926634992332820282019728792003956564819968) := by
 refine Qb _ _ _ _ fun i hi => ?_
 by_cases e : i = 31
 · subst e
   rw [qw, hx]
   unfold dg
   rw [show (256 : Nat) ^ 31 = 452312848583266388373324160190187140051835877600158453279131187530910662656 by decide +kernel]
   omega
 · rw [qD _ _ _ _ e]
   unfold dg
   have e1 : 57896044618658097711785492504343953926634992332820282019728792003956564819968 = 256 ^ i * (256 * (128 * 256 ^ (30 - i))) := by
    rw [show 256 ^ i * (256 * (128 * 256 ^ (30 - i))) = 128 * (256 ^ i * 256 ^ (30 - i) * 256) by ac_rfl, ← Nat.pow_add, show i + (30 - i) = 30 by omega]
   rw [e1, Nat.add_mul_div_left _ _ (Nat.pow_pos (by omega)), Nat.add_mul_mod_self_left]
def qbZ (X Y Z : Nat) : Nat := Y * pwm Z (PP - 2) % PP + X * pwm Z (PP - 2) % PP % 2 * 57896044618658097711785492504343953926634992332820282019728792003956564819968
theorem keyn_odd (X Y Z : Nat) (h : X * pwm Z (PP - 2) % PP % 2 = 1) : Y * pwm Z (PP - 2) % PP + 57896044618658097711785492504343953926634992332820282019728792003956564819968 = qbZ X Y Z := by unfold qbZ; rw [h, Nat.one_mul]
theorem qdJ (X Y Z : Nat) (h : X * pwm Z (PP - 2) % PP % 2 = 0) : Y * pwm Z (PP - 2) % PP = qbZ X Y Z := by unfold qbZ; rw [h, Nat.zero_mul, Nat.add_zero]
theorem PP_255 : PP < 57896044618658097711785492504343953926634992332820282019728792003956564819968 := by decide +kernel
theorem over_cong (x z q X Z : Nat) (hx : x % PP = X) (hz : z % PP = Z) (hq : q % PP = x * pwm z (PP - 2) % PP) : q % PP = X * pwm Z (PP - 2) % PP := by
 rw [hq, ← hx, ← hz, ZU, Nat.mod_mul_mod]
theorem pkey_any (x y z1 : Nat) (b : Bool) (X Y Z : Nat) (h : qag x y z1 b X Y Z) (w : World) :
 Calls Try.prog 49 #[.agg (pt x y z1 b)] w fun e w' => e = .returned (.agg (k32 (qbZ X Y Z))) ∧ Below w.heap.size w w' := by
 have hpl := fun w => qbU x y z1 b X Y Z h w
 have hov := qbv
 have hkey := key_any
 have hevy := even_yes
 have hevn := even_no
 obtain ⟨QY, hQY⟩ : ∃ q, q = Y * pwm Z (PP - 2) % PP := ⟨_, rfl⟩
 obtain ⟨QX, hQX⟩ : ∃ q, q = X * pwm Z (PP - 2) % PP := ⟨_, rfl⟩
 have hQl : QY < 57896044618658097711785492504343953926634992332820282019728792003956564819968 := by rw [hQY]; exact Nat.lt_trans (Nat.mod_lt _ qH) PP_255
 have hoc := over_cong
 obtain ⟨R, hR⟩ : ∃ r, r = qbZ X Y Z := ⟨_, rfl⟩
 have hodd : QX % 2 = 1 → QY + 57896044618658097711785492504343953926634992332820282019728792003956564819968 = R := by intro h; rw [hQY, hR]; rw [hQX] at h; exact keyn_odd X Y Z h
 have heven : QX % 2 = 0 → QY = R := by intro h; rw [hQY, hR]; rw [hQX] at h; exact qdJ X Y Z h
 rw [← hR]
 clear hR h
 have Hpl := Lib.hid hpl; clear hpl
 have Hov := Lib.hid hov; clear hov
 have Hkey := Lib.hid hkey; clear hkey
 have Hevy := Lib.hid hevy; clear hevy
 have Hevn := Lib.hid hevn; clear hevn
 have HQY := Lib.hid hQY; clear hQY
 have HQX := Lib.hid hQX; clear hQX
 have HQl := Lib.hid hQl; clear hQl
 have Hoc := Lib.hid hoc; clear hoc
 have Hodd := Lib.hid hodd; clear hodd
 have Heven := Lib.hid heven; clear heven
 go_enter Try.func49, Try.ntmps49
 repeat ((fail_if_success (with_reducible (show wpList _ _ _ _ _ _))); go_step)
 iterate 2 (refine wpList_step (fun K hK => ?_); go_simp; (try go_bits); refine hK _ _ ?_; clear hK K)
 refine wpList_nil ?_
 have M1 := Lib.hid ((Has.new w  (pt x y z1 b) 53).alloc (.cells (#[.int .u8 0, .int .u8 0, .int .u8 0, .int .u8 0, .int .u8 0, .int .u8 0, .int .u8 0, .int .u8 0, .int .u8 0, .int .u8 0, .int .u8 0, .int .u8 0, .int .u8 0, .int .u8 0, .int .u8 0, .int .u8 0, .int .u8 0, .int .u8 0, .int .u8 0, .int .u8 0, .int .u8 0, .int .u8 0, .int .u8 0, .int .u8 0, .int .u8 0, .int .u8 0, .int .u8 0, .int .u8 0, .int .u8 0, .int .u8 0, .int .u8 0, .int .u8 0] : Array Value) 24))
 have M2 := Lib.hid (HasN.new1 w (.cells (pt x y z1 b) 53) (#[.int .u8 0, .int .u8 0, .int .u8 0, .int .u8 0, .int .u8 0, .int .u8 0, .int .u8 0, .int .u8 0, .int .u8 0, .int .u8 0, .int .u8 0, .int .u8 0, .int .u8 0, .int .u8 0, .int .u8 0, .int .u8 0, .int .u8 0, .int .u8 0, .int .u8 0, .int .u8 0, .int .u8 0, .int .u8 0, .int .u8 0, .int .u8 0, .int .u8 0, .int .u8 0, .int .u8 0, .int .u8 0, .int .u8 0, .int .u8 0, .int .u8 0, .int .u8 0] : Array Value) 24 32 (by kernel_rfl))
 have HB := Lib.hid (Qx w (.cells (pt x y z1 b) 53) (.cells (#[.int .u8 0, .int .u8 0, .int .u8 0, .int .u8 0, .int .u8 0, .int .u8 0, .int .u8 0, .int .u8 0, .int .u8 0, .int .u8 0, .int .u8 0, .int .u8 0, .int .u8 0, .int .u8 0, .int .u8 0, .int .u8 0, .int .u8 0, .int .u8 0, .int .u8 0, .int .u8 0, .int .u8 0, .int .u8 0, .int .u8 0, .int .u8 0, .int .u8 0, .int .u8 0, .int .u8 0, .int .u8 0, .int .u8 0, .int .u8 0, .int .u8 0, .int .u8 0] : Array Value) 24))
 obtain ⟨yw1, hwyw1⟩ : ∃ ww, ww = ((w.alloc (.cells (pt x y z1 b) 53)).alloc (.cells (#[.int .u8 0, .int .u8 0, .int .u8 0, .int .u8 0, .int .u8 0, .int .u8 0, .int .u8 0, .int .u8 0, .int .u8 0, .int .u8 0, .int .u8 0, .int .u8 0, .int .u8 0, .int .u8 0, .int .u8 0, .int .u8 0, .int .u8 0, .int .u8 0, .int .u8 0, .int .u8 0, .int .u8 0, .int .u8 0, .int .u8 0, .int .u8 0, .int .u8 0, .int .u8 0, .int .u8 0, .int .u8 0, .int .u8 0, .int .u8 0, .int .u8 0, .int .u8 0] : Array Value) 24)) := ⟨_, rfl⟩
 rw [← hwyw1] at M1 M2 HB ⊢
 clear hwyw1
 repeat ((fail_if_success (with_reducible (show wpList _ _ _ _ _ _))); go_step)
 refine qv (by rfl) 53 _ rfl (w.heap.size) rfl 53 (pt x y z1 b) M1.out Try.underlying53 rfl (by rw [qs]; kernel_rfl) 8 rfl ?_
 (try simp only [Act.put, sI, sS, sZ])
 refine qm (by rfl) rfl rfl (by rfl) ent90 (by rfl) (Hpl.out _) 9 rfl ?_
 rintro e uw1 ⟨mx, my, mz, ⟨hmx, hmy, hmz⟩, ⟨hrx, hry, hrz⟩, rfl, hb⟩
 replace M1 := Lib.hid (M1.out.call hb)
 replace M2 := Lib.hid (M2.out.call hb)
 replace HB := Lib.hid (qh HB.out hb)
 refine ⟨_, rfl, ?_⟩
 clear hb
 (try simp only [Act.put, sI, sS, sZ])
 iterate 4 (refine wpList_step (fun K hK => ?_); go_simp; (try go_bits); refine hK _ _ ?_; clear hK K)
 refine qJ (by rfl) 36 rfl _ qcj 3 rfl ?_
 intro yw2 hw2
 have hlt3 := M1.out.lt
 have hlt4 := M2.out.lt
 have hsz := HB.out.size
 replace M1 := Lib.hid (M1.out.alloc (.cells z36 36))
 replace M2 := Lib.hid (M2.out.alloc (.cells z36 36))
 have M3 := Lib.hid (HasN.new uw1 z36 36 4 (by kernel_rfl))
 replace HB := Lib.hid (HB.out.alloc hsz (.cells z36 36))
 rw [← hw2] at M1 M2 M3 HB; clear hw2
 (try simp only [Act.put, sI, sS, sZ])
 refine qJ (by rfl) 36 rfl _ qcj 4 rfl ?_
 intro yw5 hw2
 have hlt6 := M1.out.lt
 have hlt7 := M2.out.lt
 have hlt8 := M3.out.lt
 have hsz := HB.out.size
 replace M1 := Lib.hid (M1.out.alloc (.cells z36 36))
 replace M2 := Lib.hid (M2.out.alloc (.cells z36 36))
 replace M3 := Lib.hid (M3.out.alloc (.cells z36 36))
 have M4 := Lib.hid (HasN.new yw2 z36 36 4 (by kernel_rfl))
 replace HB := Lib.hid (HB.out.alloc hsz (.cells z36 36))
 rw [← hw2] at M1 M2 M3 M4 HB; clear hw2
 (try simp only [Act.put, sI, sS, sZ])
 refine qJ (by rfl) 36 rfl _ qcj 5 rfl ?_
 intro yw9 hw2
 have hlt10 := M1.out.lt
 have hlt11 := M2.out.lt
 have hlt12 := M3.out.lt
 have hlt13 := M4.out.lt
 have hsz := HB.out.size
 replace M1 := Lib.hid (M1.out.alloc (.cells z36 36))
 replace M2 := Lib.hid (M2.out.alloc (.cells z36 36))
 replace M3 := Lib.hid (M3.out.alloc (.cells z36 36))
 replace M4 := Lib.hid (M4.out.alloc (.cells z36 36))
 have M5 := Lib.hid (HasN.new yw5 z36 36 4 (by kernel_rfl))
 replace HB := Lib.hid (HB.out.alloc hsz (.cells z36 36))
 rw [← hw2] at M1 M2 M3 M4 M5 HB; clear hw2
 (try simp only [Act.put, sI, sS, sZ])
 first | (obtain ⟨Zq, hZ, mZ⟩ := M3.out) | (obtain ⟨Zq, hZ, mZ⟩ := M3.out.toN (qd ..))
 refine ql (by rfl) 36 _ _ rfl rfl (uw1.heap.size) (e4 mx) rfl rfl 36 Zq mZ (by rw [qd]; kernel_rfl) (hZ.trans (qd ..).symm) (qp _ _ _) ?_
 intro yw14 hw2
 replace M1 := Lib.hid (M1.out.setRow_other (uw1.heap.size) (e4 mx) (by omega))
 replace M2 := Lib.hid (M2.out.setRow_other (uw1.heap.size) (e4 mx) (by omega))
 replace M4 := Lib.hid (M4.out.setRow_other (uw1.heap.size) (e4 mx) (by omega))
 replace M5 := Lib.hid (M5.out.setRow_other (uw1.heap.size) (e4 mx) (by omega))
 replace M3 := Lib.hid (mZ.setRow (e4 mx))
 replace HB := Lib.hid (below_setRow HB.out (uw1.heap.size) (e4 mx) (by omega))
 rw [← hw2] at M1 M2 M4 M5 M3 HB; clear mZ hZ hw2
 first | (obtain ⟨Zq, hZ, mZ⟩ := M4.out) | (obtain ⟨Zq, hZ, mZ⟩ := M4.out.toN (qd ..))
 refine ql (by rfl) 36 _ _ rfl rfl (yw2.heap.size) (e4 my) rfl rfl 36 Zq mZ (by rw [qd]; kernel_rfl) (hZ.trans (qd ..).symm) (qp _ _ _) ?_
 intro yw15 hw2
 replace M1 := Lib.hid (M1.out.setRow_other (yw2.heap.size) (e4 my) (by omega))
 replace M2 := Lib.hid (M2.out.setRow_other (yw2.heap.size) (e4 my) (by omega))
 replace M3 := Lib.hid (M3.out.setRow_other (yw2.heap.size) (e4 my) (by omega))
 replace M5 := Lib.hid (M5.out.setRow_other (yw2.heap.size) (e4 my) (by omega))
 replace M4 := Lib.hid (mZ.setRow (e4 my))
 replace HB := Lib.hid (below_setRow HB.out (yw2.heap.size) (e4 my) (by omega))
 rw [← hw2] at M1 M2 M3 M5 M4 HB; clear mZ hZ hw2
 first | (obtain ⟨Zq, hZ, mZ⟩ := M5.out) | (obtain ⟨Zq, hZ, mZ⟩ := M5.out.toN (qd ..))
 refine ql (by rfl) 36 _ _ rfl rfl (yw5.heap.size) (e4 mz) rfl rfl 36 Zq mZ (by rw [qd]; kernel_rfl) (hZ.trans (qd ..).symm) (qp _ _ _) ?_
 intro yw16 hw2
 replace M1 := Lib.hid (M1.out.setRow_other (yw5.heap.size) (e4 mz) (by omega))
 replace M2 := Lib.hid (M2.out.setRow_other (yw5.heap.size) (e4 mz) (by omega))
 replace M3 := Lib.hid (M3.out.setRow_other (yw5.heap.size) (e4 mz) (by omega))
 replace M4 := Lib.hid (M4.out.setRow_other (yw5.heap.size) (e4 mz) (by omega))
 replace M5 := Lib.hid (mZ.setRow (e4 mz))
 replace HB := Lib.hid (below_setRow HB.out (yw5.heap.size) (e4 mz) (by omega))
 rw [← hw2] at M1 M2 M3 M4 M5 HB; clear mZ hZ hw2
 refine wpList_nil ?_
 have Hrx := Lib.hid hrx; clear hrx
 have Hry := Lib.hid hry; clear hry
 have Hrz := Lib.hid hrz; clear hrz
 repeat ((fail_if_success (with_reducible (show wpList _ _ _ _ _ _))); go_step)
 refine qv (by rfl) 36 _ rfl (yw2.heap.size) rfl 36 (e4 my) M4.out Try.underlying36 rfl (by rw [qd]; kernel_rfl) 13 rfl ?_
 (try simp only [Act.put, sI, sS, sZ])
 refine qv (by rfl) 36 _ rfl (yw5.heap.size) rfl 36 (e4 mz) M5.out Try.underlying36 rfl (by rw [qd]; kernel_rfl) 14 rfl ?_
 (try simp only [Act.put, sI, sS, sZ])
 refine qm (by rfl) rfl rfl (by rfl) ent42 (by rfl) (Hov.out my mz hmy hmz _) 15 rfl ?_
 rintro e uw2 ⟨q1, hq1, hq1r, rfl, hb⟩
 replace M1 := Lib.hid (M1.out.call hb)
 replace M2 := Lib.hid (M2.out.call hb)
 replace M3 := Lib.hid (M3.out.call hb)
 replace M4 := Lib.hid (M4.out.call hb)
 replace M5 := Lib.hid (M5.out.call hb)
 replace HB := Lib.hid (qh HB.out hb)
 have hq1s := (Hoc.out my mz q1 Y Z Hry.out Hrz.out hq1r).trans HQY.out.symm
 clear hq1r
 have Hq1 := Lib.hid hq1s; clear hq1s
 refine ⟨_, rfl, ?_⟩
 clear hb
 (try simp only [Act.put, sI, sS, sZ])
 refine qm (by rfl) rfl rfl (by rfl) ent73 (by rfl) (Hkey.out q1 hq1 _) 16 rfl ?_
 rintro e uw3 ⟨rfl, hb⟩
 replace M1 := Lib.hid (M1.out.call hb)
 replace M2 := Lib.hid (M2.out.call hb)
 replace M3 := Lib.hid (M3.out.call hb)
 replace M4 := Lib.hid (M4.out.call hb)
 replace M5 := Lib.hid (M5.out.call hb)
 replace HB := Lib.hid (qh HB.out hb)
 rw [Hq1.out]
 refine ⟨_, rfl, ?_⟩
 clear hb
 (try simp only [Act.put, sI, sS, sZ])
 refine qJ (by rfl) 24 rfl _ al24 6 rfl ?_
 intro yw17 hw2
 have hlt18 := M1.out.lt
 have hlt19 := M2.out.lt
 have hlt20 := M3.out.lt
 have hlt21 := M4.out.lt
 have hlt22 := M5.out.lt
 have hsz := HB.out.size
 replace M1 := Lib.hid (M1.out.alloc (.cells z24 24))
 replace M2 := Lib.hid (M2.out.alloc (.cells z24 24))
 replace M3 := Lib.hid (M3.out.alloc (.cells z24 24))
 replace M4 := Lib.hid (M4.out.alloc (.cells z24 24))
 replace M5 := Lib.hid (M5.out.alloc (.cells z24 24))
 have M6 := Lib.hid (HasN.new uw3 z24 24 32 (by kernel_rfl))
 replace HB := Lib.hid (HB.out.alloc hsz (.cells z24 24))
 rw [← hw2] at M1 M2 M3 M4 M5 M6 HB; clear hw2
 (try simp only [Act.put, sI, sS, sZ])
 first | (obtain ⟨Zq, hZ, mZ⟩ := M6.out) | (obtain ⟨Zq, hZ, mZ⟩ := M6.out.toN (qf ..))
 refine ql (by rfl) 24 _ _ rfl rfl (uw3.heap.size) (k32 QY) rfl rfl 24 Zq mZ (by rw [qf]; kernel_rfl) (hZ.trans (qf ..).symm) (qp _ _ _) ?_
 intro yw23 hw2
 replace M1 := Lib.hid (M1.out.setRow_other (uw3.heap.size) (k32 QY) (by omega))
 replace M2 := Lib.hid (M2.out.setRow_other (uw3.heap.size) (k32 QY) (by omega))
 replace M3 := Lib.hid (M3.out.setRow_other (uw3.heap.size) (k32 QY) (by omega))
 replace M4 := Lib.hid (M4.out.setRow_other (uw3.heap.size) (k32 QY) (by omega))
 replace M5 := Lib.hid (M5.out.setRow_other (uw3.heap.size) (k32 QY) (by omega))
 replace M6 := Lib.hid (mZ.setRow (k32 QY))
 replace HB := Lib.hid (below_setRow HB.out (uw3.heap.size) (k32 QY) (by omega))
 rw [← hw2] at M1 M2 M3 M4 M5 M6 HB; clear mZ hZ hw2
 refine wpList_nil ?_
 repeat ((fail_if_success (with_reducible (show wpList _ _ _ _ _ _))); go_step)
 refine qv (by rfl) 36 _ rfl (uw1.heap.size) rfl 36 (e4 mx) M3.out Try.underlying36 rfl (by rw [qd]; kernel_rfl) 17 rfl ?_
 (try simp only [Act.put, sI, sS, sZ])
 refine qv (by rfl) 36 _ rfl (yw5.heap.size) rfl 36 (e4 mz) M5.out Try.underlying36 rfl (by rw [qd]; kernel_rfl) 18 rfl ?_
 (try simp only [Act.put, sI, sS, sZ])
 refine qm (by rfl) rfl rfl (by rfl) ent42 (by rfl) (Hov.out mx mz hmx hmz _) 19 rfl ?_
 rintro e uw4 ⟨q2, hq2, hq2r, rfl, hb⟩
 replace M1 := Lib.hid (M1.out.call hb)
 replace M2 := Lib.hid (M2.out.call hb)
 replace M3 := Lib.hid (M3.out.call hb)
 replace M4 := Lib.hid (M4.out.call hb)
 replace M5 := Lib.hid (M5.out.call hb)
 replace M6 := Lib.hid (M6.out.call hb)
 replace HB := Lib.hid (qh HB.out hb)
 have hq2s := (Hoc.out mx mz q2 X Z Hrx.out Hrz.out hq2r).trans HQX.out.symm
 clear hq2r
 have Hq2 := Lib.hid hq2s; clear hq2s
 refine ⟨_, rfl, ?_⟩
 clear hb
 (try simp only [Act.put, sI, sS, sZ])
 rcases Nat.mod_two_eq_zero_or_one QX with hp | hp
 · have hE := Heven.out hp
   have hev := fun w => Hevy.out q2 hq2 (by rw [Hq2.out]; exact hp) w
   have HE := Lib.hid hE; clear hE
   have Hev := Lib.hid hev; clear hev
   have Hp := Lib.hid hp; clear hp
   refine qm (by rfl) rfl rfl (by rfl) ent36 (by rfl) (Hev.out _) 20 rfl ?_
   rintro e uw5 ⟨rfl, hb⟩
   replace M1 := Lib.hid (M1.out.call hb)
   replace M2 := Lib.hid (M2.out.call hb)
   replace M3 := Lib.hid (M3.out.call hb)
   replace M4 := Lib.hid (M4.out.call hb)
   replace M5 := Lib.hid (M5.out.call hb)
   replace M6 := Lib.hid (M6.out.call hb)
   replace HB := Lib.hid (qh HB.out hb)
   refine ⟨_, rfl, ?_⟩
   clear hb
   (try simp only [Act.put, sI, sS, sZ])
   (refine wpList_step (fun K hK => ?_); go_simp; (try go_bits); refine hK _ _ ?_; clear hK K)
   refine wpList_nil ?_
   repeat ((fail_if_success (with_reducible (show wpList _ _ _ _ _ _))); go_step)
   refine qv (by rfl) 24 _ rfl (uw3.heap.size) rfl 24 (k32 QY) M6.out Try.underlying24 rfl (by rw [qf]; kernel_rfl) 26 rfl ?_
   (try simp only [Act.put, sI, sS, sZ])
   first | (obtain ⟨Zq, hZ, mZ⟩ := M2.out) | (obtain ⟨Zq, hZ, mZ⟩ := M2.out.toN (qf ..))
   refine ql (by rfl) 24 _ _ rfl rfl (w.heap.size + 1) (k32 QY) rfl rfl 24 Zq mZ (by rw [qf]; kernel_rfl) (hZ.trans (qf ..).symm) (qp _ _ _) ?_
   intro yw24 hw2
   replace M1 := Lib.hid (M1.out.setRow_other (w.heap.size + 1) (k32 QY) (by omega))
   replace M3 := Lib.hid (M3.out.setRow_other (w.heap.size + 1) (k32 QY) (by omega))
   replace M4 := Lib.hid (M4.out.setRow_other (w.heap.size + 1) (k32 QY) (by omega))
   replace M5 := Lib.hid (M5.out.setRow_other (w.heap.size + 1) (k32 QY) (by omega))
   replace M6 := Lib.hid (M6.out.setRow_other (w.heap.size + 1) (k32 QY) (by omega))
   replace M2 := Lib.hid (mZ.setRow (k32 QY))
   replace HB := Lib.hid (below_setRow HB.out (w.heap.size + 1) (k32 QY) (by omega))
   rw [← hw2] at M1 M3 M4 M5 M6 M2 HB; clear mZ hZ hw2
   refine wpList_nil ?_
   go_wp2_with fail
   exact bodyPost_ret (v := .agg (k32 QY)) (results_cell_row (t := 24) (by rfl) _ _ (w.heap.size + 1) _ _ _ rfl M2.out Try.underlying24 rfl (by rw [qf]; kernel_rfl)) rfl ⟨by rw [HE.out], HB.out⟩
 · have hE := Hodd.out hp
   have hev := fun w => Hevn.out q2 hq2 (by rw [Hq2.out]; exact hp) w
   obtain ⟨c, hc, hcl⟩ := qdc QY HQl.out
   have hor := or_128 c hcl
   have hkt := key_top QY HQl.out ((c : Int) + 128) (by rw [hc])
   have HE := Lib.hid hE; clear hE
   have Hev := Lib.hid hev; clear hev
   have Hp := Lib.hid hp; clear hp
   have Hkt := Lib.hid hkt; clear hkt
   have Hc := Lib.hid hc; clear hc
   refine qm (by rfl) rfl rfl (by rfl) ent36 (by rfl) (Hev.out _) 20 rfl ?_
   rintro e uw5 ⟨rfl, hb⟩
   replace M1 := Lib.hid (M1.out.call hb)
   replace M2 := Lib.hid (M2.out.call hb)
   replace M3 := Lib.hid (M3.out.call hb)
   replace M4 := Lib.hid (M4.out.call hb)
   replace M5 := Lib.hid (M5.out.call hb)
   replace M6 := Lib.hid (M6.out.call hb)
   replace HB := Lib.hid (qh HB.out hb)
   refine ⟨_, rfl, ?_⟩
   clear hb
   (try simp only [Act.put, sI, sS, sZ])
   (refine wpList_step (fun K hK => ?_); go_simp; (try go_bits); refine hK _ _ ?_; clear hK K)
   refine wpList_nil ?_
   repeat ((fail_if_success (with_reducible (show wpList _ _ _ _ _ _))); go_step)
   have h1 := M6.out.cell 31 (by omega)
   rw [Hc.out] at h1
   have hfz := M6.out.frozen 31
   iterate 5 (refine wpList_step (fun K hK => ?_); go_simp; (try go_bits); refine hK _ _ ?_; clear hK K)
   refine wpList_nil ?_
   clear h1 hfz
   have kq := M6.out.set (31) ((c : Int) + 128); rw [Hkt.out] at kq; clear M6; have M6 := Lib.hid kq; clear kq
   have kq := M1.out.other ⟨uw3.heap.size, 31, none⟩ (.int .u8 ((c : Int) + 128)) (by simp <;> omega); clear M1; have M1 := Lib.hid kq; clear kq
   have kq := M2.out.other ⟨uw3.heap.size, 31, none⟩ (.int .u8 ((c : Int) + 128)) (by simp <;> omega); clear M2; have M2 := Lib.hid kq; clear kq
   have kq := M3.out.other ⟨uw3.heap.size, 31, none⟩ (.int .u8 ((c : Int) + 128)) (by simp <;> omega); clear M3; have M3 := Lib.hid kq; clear kq
   have kq := M4.out.other ⟨uw3.heap.size, 31, none⟩ (.int .u8 ((c : Int) + 128)) (by simp <;> omega); clear M4; have M4 := Lib.hid kq; clear kq
   have kq := M5.out.other ⟨uw3.heap.size, 31, none⟩ (.int .u8 ((c : Int) + 128)) (by simp <;> omega); clear M5; have M5 := Lib.hid kq; clear kq
   replace HB := Lib.hid (HB.out.setCell (p := ⟨uw3.heap.size, 31, none⟩) (show w.heap.size ≤ uw3.heap.size by omega) (.int .u8 ((c : Int) + 128)))
   obtain ⟨yw24, hwyw24⟩ : ∃ ww, ww = uw5.setCell ⟨uw3.heap.size, 31, none⟩ (.int .u8 ((c : Int) + 128)) := ⟨_, rfl⟩
   rw [← hwyw24] at M1 M2 M3 M4 M5 M6 HB ⊢
   clear hwyw24
   repeat ((fail_if_success (with_reducible (show wpList _ _ _ _ _ _))); go_step)
   refine qv (by rfl) 24 _ rfl (uw3.heap.size) rfl 24 (k32 (QY + 57896044618658097711785492504343953926634992332820282019728792003956564819968)) M6.out Try.underlying24 rfl (by rw [qf]; kernel_rfl) 26 rfl ?_
   (try simp only [Act.put, sI, sS, sZ])
   first | (obtain ⟨Zq, hZ, mZ⟩ := M2.out) | (obtain ⟨Zq, hZ, mZ⟩ := M2.out.toN (qf ..))
   refine ql (by rfl) 24 _ _ rfl rfl (w.heap.size + 1) (k32 (QY + 57896044618658097711785492504343953926634992332820282019728792003956564819968)) rfl rfl 24 Zq mZ (by rw [qf]; kernel_rfl) (hZ.trans (qf ..).symm) (qp _ _ _) ?_
   intro yw25 hw2
   replace M1 := Lib.hid (M1.out.setRow_other (w.heap.size + 1) (k32 (QY + 57896044618658097711785492504343953926634992332820282019728792003956564819968)) (by omega))
   replace M3 := Lib.hid (M3.out.setRow_other (w.heap.size + 1) (k32 (QY + 57896044618658097711785492504343953926634992332820282019728792003956564819968)) (by omega))
   replace M4 := Lib.hid (M4.out.setRow_other (w.heap.size + 1) (k32 (QY + 57896044618658097711785492504343953926634992332820282019728792003956564819968)) (by omega))
   replace M5 := Lib.hid (M5.out.setRow_other (w.heap.size + 1) (k32 (QY + 57896044618658097711785492504343953926634992332820282019728792003956564819968)) (by omega))
   replace M6 := Lib.hid (M6.out.setRow_other (w.heap.size + 1) (k32 (QY + 57896044618658097711785492504343953926634992332820282019728792003956564819968)) (by omega))
   replace M2 := Lib.hid (mZ.setRow (k32 (QY + 57896044618658097711785492504343953926634992332820282019728792003956564819968)))
   replace HB := Lib.hid (below_setRow HB.out (w.heap.size + 1) (k32 (QY + 57896044618658097711785492504343953926634992332820282019728792003956564819968)) (by omega))
   rw [← hw2] at M1 M3 M4 M5 M6 M2 HB; clear mZ hZ hw2
   refine wpList_nil ?_
   go_wp2_with fail
   exact bodyPost_ret (v := .agg (k32 (QY + 57896044618658097711785492504343953926634992332820282019728792003956564819968))) (results_cell_row (t := 24) (by rfl) _ _ (w.heap.size + 1) _ _ _ rfl M2.out Try.underlying24 rfl (by rw [qf]; kernel_rfl)) rfl ⟨by rw [HE.out], HB.out⟩
end
section
open Go.RowKit Go.Sx
def cx (Y : Nat) : Nat := (Y * Y % PP + (PP - 1)) % PP * pwm ((SL * (Y * Y % PP) % PP + 1) % PP) (PP - 2) % PP
def bes (C : Nat) (even : Bool) (Y : Nat) : Bool × Nat × Nat :=
 if Qy C = true ∧ ¬ (rt3 C = 0 ∧ even = false) then (true, (if even = true then rt3 C else (0 % PP + (PP - rt3 C)) % PP), Y) else (false, 0, 1)
theorem bes_no1 (C : Nat) (even : Bool) (Y : Nat) (h : Qy C = false) : bes C even Y = (false, 0, 1) := by
 unfold bes; rw [if_neg (by rw [h]; simp)]
theorem bes_no2 (C : Nat) (Y : Nat) (h : rt3 C = 0) : bes C false Y = (false, 0, 1) := by
 unfold bes; rw [if_neg (by simp [h])]
theorem qaB (C : Nat) (Y : Nat) (h : Qy C = true) : bes C true Y = (true, rt3 C, Y) := by
 unfold bes; rw [if_pos ⟨h, by simp⟩, if_pos rfl]
theorem qcu (C : Nat) (Y : Nat) (h : Qy C = true) (h0 : ¬ rt3 C = 0) : bes C false Y = (true, (0 % PP + (PP - rt3 C)) % PP, Y) := by
 unfold bes; rw [if_pos ⟨h, fun hh => h0 hh.1⟩, if_neg (by simp)]
def BeP (r : Bool × Nat × Nat) (w : World) (e : Ending) (w' : World) : Prop :=
 ∃ (x y z1 : Nat) (b : Bool), qag x y z1 b r.2.1 r.2.2 (1 % PP) ∧ e = .returned (.tuple #[.agg (pt x y z1 b), .bool r.1]) ∧ Below w.heap.size w w'
theorem ZC : 1 % PP = 1 := Nat.mod_eq_of_lt (by have := QB; omega)
theorem root_un2 (q C : Nat) (ok : Bool) (R : Nat) (hq : q < 115792089237316195423570985008687907853269984665640564039457584007913129639936) (h : q % PP = C) (hok : ok = Qy C) (hR : R = rt3 C) (w : World) :
 Calls Try.prog 44 #[.agg (e4 q)] w fun e w' => ∃ m : Nat, m < 115792089237316195423570985008687907853269984665640564039457584007913129639936 ∧ m % PP = R ∧ e = .returned (.tuple #[.agg (e4 m), .bool ok]) ∧ Below w.heap.size w w' := by
 have := froot_any q hq w
 rw [h] at this
 rw [hok, hR]
 exact this
theorem is_zero4 (q R : Nat) (z : Bool) (hq : q < 115792089237316195423570985008687907853269984665640564039457584007913129639936) (h : q % PP = R) (hz : z = decide (R = 0 % PP)) (w : World) :
 Calls Try.prog 41 #[.agg (e4 q), .agg (e4 0)] w fun e w' => e = .returned (.bool z) ∧ Below w.heap.size w w' := by
 rw [hz, ← h]; exact is_any q 0 hq (by decide) w
def El (r m : Nat) : Prop := m < 115792089237316195423570985008687907853269984665640564039457584007913129639936 ∧ m % PP = r
theorem Qe (n : Nat) : (e4 n).toList.all (·.oneCell') = true := by unfold e4 row; exact List.all_eq_true.2 fun v hv => Ze _ _ _ v hv
theorem qG {a b A B R : Nat} (ha : El A a) (hb : El B b) (hR : R = A * B % PP) (w : World) : Calls Try.prog 31 ([.agg (e4 a), .agg (e4 b)] : List Value).toArray w fun e w' => ∃ m, El R m ∧ e = .returned (.agg (e4 m)) ∧ Below w.heap.size w w' :=
 (qL a b ha.1 hb.1 w).mono fun _ _ ⟨m, h1, h2, h3, h4⟩ => ⟨m, ⟨h1, by rw [hR, h2, ← ha.2, ← hb.2, ← Nat.mul_mod]⟩, h3, h4⟩
theorem QR {a b A B R : Nat} (ha : El A a) (hb : El B b) (hR : R = (A + B) % PP) (w : World) : Calls Try.prog 37 ([.agg (e4 a), .agg (e4 b)] : List Value).toArray w fun e w' => ∃ m, El R m ∧ e = .returned (.agg (e4 m)) ∧ Below w.heap.size w w' :=
 (plus_any a b ha.1 hb.1 w).mono fun _ _ ⟨m, h1, h2, h3, h4⟩ => ⟨m, ⟨h1, by rw [hR, h2, ← ha.2, ← hb.2, ← Nat.add_mod]⟩, h3, h4⟩
theorem Q5 {a b A B R : Nat} (ha : El A a) (hb : El B b) (hR : R = (A + (PP - B)) % PP) (w : World) : Calls Try.prog 39 ([.agg (e4 a), .agg (e4 b)] : List Value).toArray w fun e w' => ∃ m, El R m ∧ e = .returned (.agg (e4 m)) ∧ Below w.heap.size w w' :=
 (zE a b ha.1 hb.1 w).mono fun _ _ ⟨m, h1, h2, h3, h4⟩ => ⟨m, ⟨h1, by rw [hR, h2, ← ha.2, ← hb.2]⟩, h3, h4⟩
theorem el_plain {x y z1 : Nat} {b : Bool} {X Y Z : Nat} (h : qag x y z1 b X Y Z) (w : World) : Calls Try.prog 90 ([.agg (pt x y z1 b)] : List Value).toArray w fun e w' => ∃ x : Nat × Nat × Nat, (El X x.1 ∧ El Y x.2.1 ∧ El Z x.2.2) ∧ e = .returned (.tuple #[.agg (e4 x.1), .agg (e4 x.2.1), .agg (e4 x.2.2)]) ∧ Below w.heap.size w w' :=
 (qbU x y z1 b X Y Z h w).mono fun _ _ ⟨x, y, z, ⟨h1, h2, h3⟩, ⟨k1, k2, k3⟩, h4, h5⟩ => ⟨(x, y, z), ⟨⟨h1, k1⟩, ⟨h2, k2⟩, ⟨h3, k3⟩⟩, h4, h5⟩
theorem el_made {x y z X Y Z : Nat} (hx : El X x) (hy : El Y y) (hz : El Z z) (w : World) : Calls Try.prog 93 ([.agg (e4 x), .agg (e4 y), .agg (e4 z)] : List Value).toArray w fun e w' => ∃ x : Nat × Nat × Nat × Bool, qag x.1 x.2.1 x.2.2.1 x.2.2.2 X Y Z ∧ e = .returned (.agg (pt x.1 x.2.1 x.2.2.1 x.2.2.2)) ∧ Below w.heap.size w w' :=
 (made_any x y z hx.1 hy.1 hz.1 w).mono fun _ _ ⟨x, y, z, b, h1, h2, h3⟩ => ⟨(x, y, z, b), by rw [hx.2, hy.2, hz.2] at h1; exact h1, h2, h3⟩
abbrev pq (b : Nat) : Value := .pointer (some ⟨b, 0, none⟩)
abbrev pt0 : Array Value := #[.int .u64 0, .int .u64 0, .int .u64 0, .int .u64 0, .int .u64 0, .int .u64 0, .int .u64 0, .int .u64 0, .int .u64 0, .int .u64 0, .int .u64 0, .int .u64 0, .bool false]
theorem el_one (w : World) : Calls Try.prog 34 ([.int .i64 1] : List Value).toArray w fun e w' => ∃ m, El (1 % PP) m ∧ e = .returned (.agg (e4 m)) ∧ Below w.heap.size w w' :=
 (Z8 1 (by decide) w).mono fun _ _ ⟨h1, h2⟩ => ⟨1, ⟨by decide, rfl⟩, h1, h2⟩
theorem qda (w : World) : Calls Try.prog 91 ([] : List Value).toArray w fun e w' => ∃ m, El SL m ∧ e = .returned (.agg (e4 m)) ∧ Below w.heap.size w w' := (qbN w).mono fun _ _ ⟨m, h1, h2, h3, h4⟩ => ⟨m, ⟨h1, h2⟩, h3, h4⟩
theorem qaT {a b A B R : Nat} (ha : El A a) (hb : El B b) (hR : R = A * pwm B (PP - 2) % PP) (w : World) : Calls Try.prog 42 ([.agg (e4 a), .agg (e4 b)] : List Value).toArray w fun e w' => ∃ m, El R m ∧ e = .returned (.agg (e4 m)) ∧ Below w.heap.size w w' :=
 (qbv a b ha.1 hb.1 w).mono fun _ _ ⟨m, h1, h2, h3, h4⟩ => ⟨m, ⟨h1, by rw [hR, h2, ← ha.2, ← hb.2, ZU, mo_mul_l a (a % PP) _ (by rw [Nat.mod_mod])]⟩, h3, h4⟩
theorem qaa {a A : Nat} (ha : El A a) (w : World) : Calls Try.prog 44 ([.agg (e4 a)] : List Value).toArray w fun e w' => ∃ m, El (rt3 A) m ∧ e = .returned (.tuple #[.agg (e4 m), .bool (Qy A)]) ∧ Below w.heap.size w w' :=
 (root_un2 a A _ _ ha.1 ha.2 rfl rfl w).mono fun _ _ ⟨m, h1, h2, h3, h4⟩ => ⟨m, ⟨h1, h2⟩, h3, h4⟩
theorem bes_C (Y : Nat) : (Y * Y % PP + (PP - 1 % PP)) % PP * pwm ((SL * (Y * Y % PP) % PP + 1 % PP) % PP) (PP - 2) % PP = cx Y := by
 unfold cx; rw [ZC]
theorem qdj (y : Nat) (even : Bool) (hy : y < 115792089237316195423570985008687907853269984665640564039457584007913129639936) (w : World) :
 Calls Try.prog 87 #[.agg (e4 y), .bool even] w (BeP (bes (cx (y % PP)) even (y % PP)) w) := by
 obtain ⟨Y, hY⟩ : ∃ Y, Y = y % PP := ⟨_, rfl⟩
 have hy1 : El Y y := ⟨hy, hY.symm⟩
 have hC := bes_C Y
 rw [← hY]
 refine (enter (R := fun v w' => ∃ (x y z1 : Nat) (b : Bool), qag x y z1 b (bes (cx Y) even Y).2.1 (bes (cx Y) even Y).2.2 (1 % PP) ∧ v = .tuple #[.agg (pt x y z1 b), .bool (bes (cx Y) even Y).1] ∧ Below w.heap.size w w') qi Try.func87 rfl Try.ntmps87 rfl (St.start w) ?_).mono (fun e w' ⟨v, he, x, y, z1, b, h1, h2, h3⟩ => ⟨x, y, z1, b, h1, by rw [he, h2], h3⟩)
 intro b2 b4
 refine cut (α := Nat × Nat × Nat × Nat) (fun x => El (1 % PP) x.1 ∧ El (Y * Y % PP) x.2.1) (fun x => ⟨[(6, pq x.2.2.1), (7, pq x.2.2.2), (2, pq b2), (4, pq b4), (1, .bool even)], [cl b2 (e4 y) 36, cl b4 pt0 53, cl x.2.2.1 (e4 x.1) 36, cl x.2.2.2 (e4 x.2.1) 36], []⟩) ?_ ?_
 · let Sl : Fr := [(2, pq b2), (4, pq b4), (1, .bool even)]
   let En : List Ent := [cl b2 (e4 y) 36, cl b4 pt0 53]
   let Zr : Array Value := #[.int .u64 0, .int .u64 0, .int .u64 0, .int .u64 0]
   refine drg En [1, 2] 6 qi qq (by kernel_rfl) (by kernel_rfl) (.refl _) (fun T g => ?_)
   have H0 : ∀ (o1 sq b6 b7 : Nat), El (1 % PP) o1 → El (Y * Y % PP) sq → T 0 #[tt,tt,tt,tt,tt,tt,tt,tt] ⟨(6, pq b6) :: (7, pq b7) :: Sl, En ++ [cl b6 (e4 o1) 36, cl b7 (e4 sq) 36], []⟩ := by
    intro o1 sq b6 b7 ho1 hsq
    refine g.fin _ _ _ (by kernel_rfl) ?_
    exact ⟨(o1, sq, b6, b7), ⟨ho1, hsq⟩, ⟨rfl, rfl, rfl, rfl, rfl, trivial⟩, .refl _, rfl⟩
   have H1 : ∀ (o1 sq b6 b7 : Nat), El (1 % PP) o1 → El (Y * Y % PP) sq → T 1 #[tt,tt,tt,tt,tt,tt,tt,ff] ⟨(14, .agg (e4 sq)) :: (6, pq b6) :: (7, pq b7) :: Sl, En ++ [cl b6 (e4 o1) 36, cl b7 Zr 36], []⟩ := by
    intro o1 sq b6 b7 ho1 hsq
    refine g.one _ _ _ 7 (by kernel_rfl) (qc _) ?_
    refine sN 3 rfl (by rw [qd]; rfl) (Qe _) ?_ (by kernel_rfl)
    refine ⟨qc _, ?_⟩
    exact g.go (H0 o1 sq b6 b7 ho1 hsq) (qc _) ⟨rfl, rfl, rfl, rfl, rfl, trivial⟩ ⟨_, .refl _, .refl _⟩ rfl
   have H2 : ∀ (o1 sq b6 b7 : Nat), El (1 % PP) o1 → El (Y * Y % PP) sq → T 2 #[tt,tt,tt,tt,tt,tt,ff,ff] ⟨(11, .agg (e4 o1)) :: (14, .agg (e4 sq)) :: (6, pq b6) :: (7, pq b7) :: Sl, En ++ [cl b6 Zr 36, cl b7 Zr 36], []⟩ := by
    intro o1 sq b6 b7 ho1 hsq
    refine g.one _ _ _ 6 (by kernel_rfl) (qc _) ?_
    refine sN 2 rfl (by rw [qd]; rfl) (Qe _) ?_ (by kernel_rfl)
    refine ⟨qc _, ?_⟩
    exact g.go (H1 o1 sq b6 b7 ho1 hsq) (qc _) ⟨rfl, rfl, rfl, rfl, rfl, rfl, trivial⟩ ⟨_, .refl _, .refl _⟩ rfl
   have H3 : ∀ (o1 sq b6 : Nat), El (1 % PP) o1 → El (Y * Y % PP) sq → T 3 #[tt,tt,tt,tt,tt,ff,ff,ff] ⟨(11, .agg (e4 o1)) :: (14, .agg (e4 sq)) :: (6, pq b6) :: Sl, En ++ [cl b6 Zr 36], []⟩ := by
    intro o1 sq b6 ho1 hsq
    refine g.one _ _ _ 5 (by kernel_rfl) (qc _) ?_
    intro b7
    refine ⟨qc _, ?_⟩
    exact g.go (H2 o1 sq b6 b7 ho1 hsq) (qc _) ⟨rfl, rfl, rfl, rfl, rfl, rfl, rfl, trivial⟩ ⟨_, .refl _, .refl _⟩ rfl
   have H4 : ∀ (o1 sq b7 : Nat), El (1 % PP) o1 → El (Y * Y % PP) sq → T 3 #[tt,tt,tt,tt,ff,tt,ff,ff] ⟨(11, .agg (e4 o1)) :: (14, .agg (e4 sq)) :: (7, pq b7) :: Sl, En ++ [cl b7 Zr 36], []⟩ := by
    intro o1 sq b7 ho1 hsq
    refine g.one _ _ _ 4 (by kernel_rfl) (qc _) ?_
    intro b6
    refine ⟨qc _, ?_⟩
    exact g.go (H2 o1 sq b6 b7 ho1 hsq) (qc _) ⟨rfl, rfl, rfl, rfl, rfl, rfl, rfl, trivial⟩ ⟨_, qB [_, _] _ [_], .refl _⟩ rfl
   have H5 : ∀ (o1 b6 b7 : Nat), El (1 % PP) o1 → T 3 #[tt,tt,tt,ff,tt,tt,ff,ff] ⟨(11, .agg (e4 o1)) :: (12, .agg (e4 y)) :: (13, .agg (e4 y)) :: (6, pq b6) :: (7, pq b7) :: Sl, En ++ [cl b6 Zr 36, cl b7 Zr 36], []⟩ := by
    intro o1 b6 b7 ho1
    refine g.one _ _ _ 3 (by kernel_rfl) (qc _) ?_
    refine ce (fun w _ => qG hy1 hy1 rfl w) (fun sq hsq => ?_)
    refine ⟨qc _, ?_⟩
    exact g.go (H2 o1 sq b6 b7 ho1 hsq) (qc _) ⟨rfl, rfl, rfl, rfl, rfl, rfl, rfl, trivial⟩ ⟨_, .refl _, .refl _⟩ rfl
   have H6 : ∀ (o1 sq : Nat), El (1 % PP) o1 → El (Y * Y % PP) sq → T 4 #[tt,tt,tt,tt,ff,ff,ff,ff] ⟨(11, .agg (e4 o1)) :: (14, .agg (e4 sq)) :: Sl, En, []⟩ := by
    intro o1 sq ho1 hsq
    refine g.two _ _ _ 4 5 (by kernel_rfl) (qc _) ?_ ?_
    · intro b6
      refine ⟨qc _, ?_⟩
      exact g.go (H3 o1 sq b6 ho1 hsq) (qc _) ⟨rfl, rfl, rfl, rfl, rfl, rfl, trivial⟩ ⟨_, .refl _, .refl _⟩ rfl
    · intro b7
      refine ⟨qc _, ?_⟩
      exact g.go (H4 o1 sq b7 ho1 hsq) (qc _) ⟨rfl, rfl, rfl, rfl, rfl, rfl, trivial⟩ ⟨_, .refl _, .refl _⟩ rfl
   have H7 : ∀ (o1 b6 : Nat), El (1 % PP) o1 → T 4 #[tt,tt,tt,ff,tt,ff,ff,ff] ⟨(11, .agg (e4 o1)) :: (12, .agg (e4 y)) :: (13, .agg (e4 y)) :: (6, pq b6) :: Sl, En ++ [cl b6 Zr 36], []⟩ := by
    intro o1 b6 ho1
    refine g.two _ _ _ 3 5 (by kernel_rfl) (qc _) ?_ ?_
    · refine ce (fun w _ => qG hy1 hy1 rfl w) (fun sq hsq => ?_)
      refine ⟨qc _, ?_⟩
      exact g.go (H3 o1 sq b6 ho1 hsq) (qc _) ⟨rfl, rfl, rfl, rfl, rfl, rfl, trivial⟩ ⟨_, .refl _, .refl _⟩ rfl
    · intro b7
      refine ⟨qc _, ?_⟩
      exact g.go (H5 o1 b6 b7 ho1) (qc _) ⟨rfl, rfl, rfl, rfl, rfl, rfl, rfl, rfl, trivial⟩ ⟨_, .refl _, .refl _⟩ rfl
   have H8 : ∀ (o1 b7 : Nat), El (1 % PP) o1 → T 4 #[tt,tt,tt,ff,ff,tt,ff,ff] ⟨(11, .agg (e4 o1)) :: (12, .agg (e4 y)) :: (13, .agg (e4 y)) :: (7, pq b7) :: Sl, En ++ [cl b7 Zr 36], []⟩ := by
    intro o1 b7 ho1
    refine g.two _ _ _ 3 4 (by kernel_rfl) (qc _) ?_ ?_
    · refine ce (fun w _ => qG hy1 hy1 rfl w) (fun sq hsq => ?_)
      refine ⟨qc _, ?_⟩
      exact g.go (H4 o1 sq b7 ho1 hsq) (qc _) ⟨rfl, rfl, rfl, rfl, rfl, rfl, trivial⟩ ⟨_, .refl _, .refl _⟩ rfl
    · intro b6
      refine ⟨qc _, ?_⟩
      exact g.go (H5 o1 b6 b7 ho1) (qc _) ⟨rfl, rfl, rfl, rfl, rfl, rfl, rfl, rfl, trivial⟩ ⟨_, qB [_, _] _ [_], .refl _⟩ rfl
   have H9 : ∀ (b6 b7 : Nat), T 4 #[ff,tt,tt,ff,tt,tt,ff,ff] ⟨(12, .agg (e4 y)) :: (13, .agg (e4 y)) :: (6, pq b6) :: (7, pq b7) :: Sl, En ++ [cl b6 Zr 36, cl b7 Zr 36], []⟩ := by
    intro b6 b7
    refine g.one _ _ _ 0 (by kernel_rfl) (qc _) ?_
    refine ce (fun w _ => el_one w) (fun o1 ho1 => ?_)
    refine ⟨qc _, ?_⟩
    exact g.go (H5 o1 b6 b7 ho1) (qc _) ⟨rfl, rfl, rfl, rfl, rfl, rfl, rfl, rfl, trivial⟩ ⟨_, .refl _, .refl _⟩ rfl
   have H10 : ∀ (o1 : Nat), El (1 % PP) o1 → T 5 #[tt,tt,tt,ff,ff,ff,ff,ff] ⟨(11, .agg (e4 o1)) :: (12, .agg (e4 y)) :: (13, .agg (e4 y)) :: Sl, En, []⟩ := by
    intro o1 ho1
    refine g.three _ _ _ 3 4 5 (by kernel_rfl) (qc _) ?_ ?_ ?_
    · refine ce (fun w _ => qG hy1 hy1 rfl w) (fun sq hsq => ?_)
      refine ⟨qc _, ?_⟩
      exact g.go (H6 o1 sq ho1 hsq) (qc _) ⟨rfl, rfl, rfl, rfl, rfl, trivial⟩ ⟨_, .refl _, .refl _⟩ rfl
    · intro b6
      refine ⟨qc _, ?_⟩
      exact g.go (H7 o1 b6 ho1) (qc _) ⟨rfl, rfl, rfl, rfl, rfl, rfl, rfl, trivial⟩ ⟨_, .refl _, .refl _⟩ rfl
    · intro b7
      refine ⟨qc _, ?_⟩
      exact g.go (H8 o1 b7 ho1) (qc _) ⟨rfl, rfl, rfl, rfl, rfl, rfl, rfl, trivial⟩ ⟨_, .refl _, .refl _⟩ rfl
   have H11 : ∀ (b6 : Nat), T 5 #[ff,tt,tt,ff,tt,ff,ff,ff] ⟨(12, .agg (e4 y)) :: (13, .agg (e4 y)) :: (6, pq b6) :: Sl, En ++ [cl b6 Zr 36], []⟩ := by
    intro b6
    refine g.two _ _ _ 0 5 (by kernel_rfl) (qc _) ?_ ?_
    · refine ce (fun w _ => el_one w) (fun o1 ho1 => ?_)
      refine ⟨qc _, ?_⟩
      exact g.go (H7 o1 b6 ho1) (qc _) ⟨rfl, rfl, rfl, rfl, rfl, rfl, rfl, trivial⟩ ⟨_, .refl _, .refl _⟩ rfl
    · intro b7
      refine ⟨qc _, ?_⟩
      exact g.go (H9 b6 b7) (qc _) ⟨rfl, rfl, rfl, rfl, rfl, rfl, rfl, trivial⟩ ⟨_, .refl _, .refl _⟩ rfl
   have H12 : ∀ (b7 : Nat), T 5 #[ff,tt,tt,ff,ff,tt,ff,ff] ⟨(12, .agg (e4 y)) :: (13, .agg (e4 y)) :: (7, pq b7) :: Sl, En ++ [cl b7 Zr 36], []⟩ := by
    intro b7
    refine g.two _ _ _ 0 4 (by kernel_rfl) (qc _) ?_ ?_
    · refine ce (fun w _ => el_one w) (fun o1 ho1 => ?_)
      refine ⟨qc _, ?_⟩
      exact g.go (H8 o1 b7 ho1) (qc _) ⟨rfl, rfl, rfl, rfl, rfl, rfl, rfl, trivial⟩ ⟨_, .refl _, .refl _⟩ rfl
    · intro b6
      refine ⟨qc _, ?_⟩
      exact g.go (H9 b6 b7) (qc _) ⟨rfl, rfl, rfl, rfl, rfl, rfl, rfl, trivial⟩ ⟨_, qB [_, _] _ [_], .refl _⟩ rfl
   have H : T 6 #[ff,tt,tt,ff,ff,ff,ff,ff] ⟨(12, .agg (e4 y)) :: (13, .agg (e4 y)) :: Sl, En, []⟩ := by
    refine g.three _ _ _ 0 4 5 (by kernel_rfl) (qc _) ?_ ?_ ?_
    · refine ce (fun w _ => el_one w) (fun o1 ho1 => ?_)
      refine ⟨qc _, ?_⟩
      exact g.go (H10 o1 ho1) (qc _) ⟨rfl, rfl, rfl, rfl, rfl, rfl, trivial⟩ ⟨_, .refl _, .refl _⟩ rfl
    · intro b6
      refine ⟨qc _, ?_⟩
      exact g.go (H11 b6) (qc _) ⟨rfl, rfl, rfl, rfl, rfl, rfl, trivial⟩ ⟨_, .refl _, .refl _⟩ rfl
    · intro b7
      refine ⟨qc _, ?_⟩
      exact g.go (H12 b7) (qc _) ⟨rfl, rfl, rfl, rfl, rfl, rfl, trivial⟩ ⟨_, .refl _, .refl _⟩ rfl
   refine ldN 0 rfl (qd _) ?_
   refine ldN 0 rfl (qd _) ?_
   exact g.go H (qc _) ⟨rfl, rfl, rfl, rfl, rfl, trivial⟩ ⟨_, .refl _, .refl _⟩ rfl
 · rintro ⟨o1, sq, b6, b7⟩ ⟨ho1, hsq⟩
   refine cut (α := Nat × Nat) (fun x => El (rt3 (cx Y)) x.1) (fun x => ⟨[(1, .bool even), (2, pq b2), (4, pq b4), (6, pq b6), (8, pq x.2), (9, .bool (Qy (cx Y)))], [cl b2 (e4 y) 36, cl b4 pt0 53, cl b6 (e4 o1) 36, cl b7 (e4 sq) 36, cl x.2 (e4 x.1) 36], []⟩) ?_ ?_
   · refine drs [cl b2 (e4 y) 36, cl b4 pt0 53, cl b6 (e4 o1) 36, cl b7 (e4 sq) 36] [] (.t 0 (.t 1 (.t 4 (.t 6 (.b 2 13 (.b 3 13 (.b 5 13 (.b 7 13 (.b 8 13 (.b 9 13 (.t 10 (.t 11 (.t 12 (.n 13 (.n 14 (.n 15 .nil)))))) (.n 9 (.t 10 (.t 11 (.t 12 (.n 14 (.n 15 .nil))))))) (.n 8 (.n 9 (.t 10 (.t 11 (.t 12 (.n 14 (.n 15 .nil)))))))) (.n 7 (.n 8 (.n 9 (.t 10 (.t 11 (.t 12 (.n 14 (.n 15 .nil))))))))) (.n 5 (.n 7 (.n 8 (.n 9 (.t 10 (.t 11 (.t 12 (.n 14 (.n 15 .nil)))))))))) (.n 3 (.n 5 (.n 7 (.n 8 (.n 9 (.t 10 (.t 11 (.t 12 (.n 14 (.n 15 .nil))))))))))) (.n 2 (.n 3 (.n 5 (.n 7 (.n 8 (.n 9 (.t 10 (.t 11 (.t 12 (.n 14 (.n 15 .nil)))))))))))))))) qi qq (by kernel_rfl) (.refl _) ?_
     refine ldN 3 rfl (qd _) ?_
     refine ldN 2 rfl (qd _) ?_
     refine ldN 3 rfl (qd _) ?_
     refine ldN 2 rfl (qd _) ?_
     refine ⟨?_, ?_⟩
     · refine ce (fun w _ => Q5 hsq ho1 rfl w) (fun n1 hn1 => ?_)
       refine ⟨qc _, ?_⟩
       refine ⟨?_, ?_⟩
       · refine ce (fun w _ => qda w) (fun n2 hn2 => ?_)
         refine ⟨qc _, ?_⟩
         refine ⟨?_, ?_⟩
         · refine ce (fun w _ => qG hn2 hsq rfl w) (fun n3 hn3 => ?_)
           refine ⟨qc _, ?_⟩
           refine ⟨?_, ?_⟩
           · refine ce (fun w _ => QR hn3 ho1 rfl w) (fun n4 hn4 => ?_)
             refine ⟨qc _, ?_⟩
             refine ⟨?_, ?_⟩
             · refine ce (fun w _ => qaT hn1 hn4 rfl w) (fun n5 hn5 => ?_)
               refine ⟨qc _, ?_⟩
               refine ⟨?_, ?_⟩
               · refine ce (fun w _ => qaa hn5 w) (fun q hq => ?_)
                 refine ⟨qc _, ?_⟩
                 intro b8
                 refine ⟨qc _, ?_⟩
                 refine sN 4 rfl (by rw [qd]; rfl) (Qe _) ?_ (by kernel_rfl)
                 refine ⟨qc _, ?_⟩
                 refine ⟨qc _, ?_⟩
                 exact ⟨(q, b8), hC ▸ hq, ⟨rfl, rfl, rfl, rfl, rfl, rfl, trivial⟩, .refl _, rfl⟩
               · intro b8
                 refine ⟨qc _, ?_⟩
                 refine ce (fun w _ => qaa hn5 w) (fun q hq => ?_)
                 refine ⟨qc _, ?_⟩
                 refine sN 4 rfl (by rw [qd]; rfl) (Qe _) ?_ (by kernel_rfl)
                 refine ⟨qc _, ?_⟩
                 refine ⟨qc _, ?_⟩
                 exact ⟨(q, b8), hC ▸ hq, ⟨rfl, rfl, rfl, rfl, rfl, rfl, trivial⟩, .refl _, rfl⟩
             · intro b8
               refine ⟨qc _, ?_⟩
               refine ce (fun w _ => qaT hn1 hn4 rfl w) (fun n5 hn5 => ?_)
               refine ⟨qc _, ?_⟩
               refine ce (fun w _ => qaa hn5 w) (fun q hq => ?_)
               refine ⟨qc _, ?_⟩
               refine sN 4 rfl (by rw [qd]; rfl) (Qe _) ?_ (by kernel_rfl)
               refine ⟨qc _, ?_⟩
               refine ⟨qc _, ?_⟩
               exact ⟨(q, b8), hC ▸ hq, ⟨rfl, rfl, rfl, rfl, rfl, rfl, trivial⟩, .refl _, rfl⟩
           · intro b8
             refine ⟨qc _, ?_⟩
             refine ce (fun w _ => QR hn3 ho1 rfl w) (fun n4 hn4 => ?_)
             refine ⟨qc _, ?_⟩
             refine ce (fun w _ => qaT hn1 hn4 rfl w) (fun n5 hn5 => ?_)
             refine ⟨qc _, ?_⟩
             refine ce (fun w _ => qaa hn5 w) (fun q hq => ?_)
             refine ⟨qc _, ?_⟩
             refine sN 4 rfl (by rw [qd]; rfl) (Qe _) ?_ (by kernel_rfl)
             refine ⟨qc _, ?_⟩
             refine ⟨qc _, ?_⟩
             exact ⟨(q, b8), hC ▸ hq, ⟨rfl, rfl, rfl, rfl, rfl, rfl, trivial⟩, .refl _, rfl⟩
         · intro b8
           refine ⟨qc _, ?_⟩
           refine ce (fun w _ => qG hn2 hsq rfl w) (fun n3 hn3 => ?_)
           refine ⟨qc _, ?_⟩
           refine ce (fun w _ => QR hn3 ho1 rfl w) (fun n4 hn4 => ?_)
           refine ⟨qc _, ?_⟩
           refine ce (fun w _ => qaT hn1 hn4 rfl w) (fun n5 hn5 => ?_)
           refine ⟨qc _, ?_⟩
           refine ce (fun w _ => qaa hn5 w) (fun q hq => ?_)
           refine ⟨qc _, ?_⟩
           refine sN 4 rfl (by rw [qd]; rfl) (Qe _) ?_ (by kernel_rfl)
           refine ⟨qc _, ?_⟩
           refine ⟨qc _, ?_⟩
           exact ⟨(q, b8), hC ▸ hq, ⟨rfl, rfl, rfl, rfl, rfl, rfl, trivial⟩, .refl _, rfl⟩
       · intro b8
         refine ⟨qc _, ?_⟩
         refine ce (fun w _ => qda w) (fun n2 hn2 => ?_)
         refine ⟨qc _, ?_⟩
         refine ce (fun w _ => qG hn2 hsq rfl w) (fun n3 hn3 => ?_)
         refine ⟨qc _, ?_⟩
         refine ce (fun w _ => QR hn3 ho1 rfl w) (fun n4 hn4 => ?_)
         refine ⟨qc _, ?_⟩
         refine ce (fun w _ => qaT hn1 hn4 rfl w) (fun n5 hn5 => ?_)
         refine ⟨qc _, ?_⟩
         refine ce (fun w _ => qaa hn5 w) (fun q hq => ?_)
         refine ⟨qc _, ?_⟩
         refine sN 4 rfl (by rw [qd]; rfl) (Qe _) ?_ (by kernel_rfl)
         refine ⟨qc _, ?_⟩
         refine ⟨qc _, ?_⟩
         exact ⟨(q, b8), hC ▸ hq, ⟨rfl, rfl, rfl, rfl, rfl, rfl, trivial⟩, .refl _, rfl⟩
     · intro b8
       refine ⟨qc _, ?_⟩
       refine ce (fun w _ => Q5 hsq ho1 rfl w) (fun n1 hn1 => ?_)
       refine ⟨qc _, ?_⟩
       refine ce (fun w _ => qda w) (fun n2 hn2 => ?_)
       refine ⟨qc _, ?_⟩
       refine ce (fun w _ => qG hn2 hsq rfl w) (fun n3 hn3 => ?_)
       refine ⟨qc _, ?_⟩
       refine ce (fun w _ => QR hn3 ho1 rfl w) (fun n4 hn4 => ?_)
       refine ⟨qc _, ?_⟩
       refine ce (fun w _ => qaT hn1 hn4 rfl w) (fun n5 hn5 => ?_)
       refine ⟨qc _, ?_⟩
       refine ce (fun w _ => qaa hn5 w) (fun q hq => ?_)
       refine ⟨qc _, ?_⟩
       refine sN 4 rfl (by rw [qd]; rfl) (Qe _) ?_ (by kernel_rfl)
       refine ⟨qc _, ?_⟩
       refine ⟨qc _, ?_⟩
       exact ⟨(q, b8), hC ▸ hq, ⟨rfl, rfl, rfl, rfl, rfl, rfl, trivial⟩, .refl _, rfl⟩
   · rintro ⟨q, b8⟩ hq
     dsimp only at hq
     refine ldN 4 rfl (qd _) ?_
     refine bu (c := e4 0) (by kernel_rfl) ?_
     refine cv (fun w => is_zero4 q (rt3 (cx Y)) _ hq.1 hq.2 rfl w) ?_
     have hno : ∀ v : Bool × Nat × Nat, bes (cx Y) even Y = (false, 0, 1) → qag 0 0 0 false (bes (cx Y) even Y).2.1 (bes (cx Y) even Y).2.2 (1 % PP) := fun _ h => by
      rw [h]; exact ⟨⟨by decide, by decide, by decide⟩, .inr ⟨rfl, rfl, ZC, rfl⟩⟩
     have no : bes (cx Y) even Y = (false, 0, 1) → ∀ w1, St [] w w1 [cl b2 (e4 y) 36, cl b4 (pt 0 0 0 false) 53, cl b6 (e4 o1) 36, cl b7 (e4 sq) 36, cl b8 (e4 q) 36] → ∃ (x y z1 : Nat) (b : Bool), qag x y z1 b (bes (cx Y) even Y).2.1 (bes (cx Y) even Y).2.2 (1 % PP) ∧ Value.tuple #[.agg (pt 0 0 0 false), .bool false] = .tuple #[.agg (pt x y z1 b), .bool (bes (cx Y) even Y).1] ∧ Below w.heap.size w w1 := fun h w1 hs => ⟨0, 0, 0, false, hno (false, 0, 1) h, by rw [h], hs.below⟩
     have hq0 : El (0 % PP) 0 := ⟨by decide, rfl⟩
     cases hok : Qy (cx Y) with
     | false =>
      repeat (first | refine cf rfl ?_ | refine ct rfl ?_)
      refine bu (c := pt 0 0 0 false) (by kernel_rfl) ?_
      refine sN 1 rfl (by rw [qs]; rfl) (by rw [Array.all_toList]; exact QK _ _ _ _) ?_ (by kernel_rfl)
      refine ldN 1 rfl (qs _ _ _ _) ?_
      exact ⟨fun w1 hs => no (bes_no1 (cx Y) even Y hok) w1 hs⟩
     | true =>
      cases even with
      | true =>
       have hb := qaB (cx Y) Y hok
       cases decide (rt3 (cx Y) = 0 % PP) <;>
       · repeat (first | refine cf rfl ?_ | refine ct rfl ?_)
         refine ldN 4 rfl (qd _) ?_
         refine ldN 0 rfl (qd _) ?_
         refine ldN 2 rfl (qd _) ?_
         refine ce (fun w _ => el_made hq hy1 ho1 w) (fun r hr => ?_)
         refine sN 1 rfl (by rw [qs]; rfl) (by rw [Array.all_toList]; exact QK _ _ _ _) ?_ (by kernel_rfl)
         refine ldN 1 rfl (qs _ _ _ _) ?_
         exact ⟨fun w1 hs => ⟨_, _, _, _, by rw [hb]; exact hr, by rw [hb]; rfl, hs.below⟩⟩
      | false =>
       cases hz : decide (rt3 (cx Y) = 0 % PP) with
       | true =>
        repeat (first | refine cf rfl ?_ | refine ct rfl ?_)
        refine bu (c := pt 0 0 0 false) (by kernel_rfl) ?_
        refine sN 1 rfl (by rw [qs]; rfl) (by rw [Array.all_toList]; exact QK _ _ _ _) ?_ (by kernel_rfl)
        refine ldN 1 rfl (qs _ _ _ _) ?_
        exact ⟨fun w1 hs => no (bes_no2 (cx Y) Y (of_decide_eq_true hz)) w1 hs⟩
       | false =>
        have hb := qcu (cx Y) Y hok (fun h => of_decide_eq_false hz h)
        repeat (first | refine cf rfl ?_ | refine ct rfl ?_)
        refine bu (c := e4 0) (by kernel_rfl) ?_
        refine ldN 4 rfl (qd _) ?_
        refine ce (fun w _ => Q5 hq0 hq rfl w) (fun q2 hq2 => ?_)
        refine sN 4 rfl (by rw [qd]; rfl) (Qe _) ?_ (by kernel_rfl)
        refine ldN 4 rfl (qd _) ?_
        refine ldN 0 rfl (qd _) ?_
        refine ldN 2 rfl (qd _) ?_
        refine ce (fun w _ => el_made hq2 hy1 ho1 w) (fun r hr => ?_)
        refine sN 1 rfl (by rw [qs]; rfl) (by rw [Array.all_toList]; exact QK _ _ _ _) ?_ (by kernel_rfl)
        refine ldN 1 rfl (qs _ _ _ _) ?_
        exact ⟨fun w1 hs => ⟨_, _, _, _, by rw [hb]; exact hr, by rw [hb]; rfl, hs.below⟩⟩
end
end Go.Proofs.Ytjiagjonlcadiaa
