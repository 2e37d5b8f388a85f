/- The program's field: Times. -/
import Derived.Test.YtjiagjonlcadiaaFldC
namespace Go.Proofs.Ytjiagjonlcadiaa
open Go.RowKit Go.Lib

theorem mul_step (x y wd cr : Int) (hx : 0 ≤ x) (hx' : x < 18446744073709551616) (hy : 0 ≤ y) (hy' : y < 18446744073709551616) (hw : 0 ≤ wd) (hw' : wd < 18446744073709551616) (hc : 0 ≤ cr) (hc' : cr < 18446744073709551616) :
    ∃ hi lo s1 c1 s2 c2 : Int, x * y / 18446744073709551616 = hi ∧ x * y % 18446744073709551616 = lo ∧ (lo + wd) % 18446744073709551616 = s1 ∧ (lo + wd) / 18446744073709551616 = c1 ∧ (s1 + cr) % 18446744073709551616 = s2 ∧ (s1 + cr) / 18446744073709551616 = c2 ∧
      0 ≤ hi ∧ hi < 18446744073709551616 ∧ 0 ≤ lo ∧ lo < 18446744073709551616 ∧ 0 ≤ s1 ∧ s1 < 18446744073709551616 ∧ 0 ≤ c1 ∧ c1 ≤ 1 ∧ 0 ≤ s2 ∧ s2 < 18446744073709551616 ∧ 0 ≤ c2 ∧ c2 ≤ 1 ∧ hi + c1 < 18446744073709551616 ∧ hi + c1 + c2 < 18446744073709551616 ∧
      s2 + 18446744073709551616 * (hi + c1 + c2) = x * y + wd + cr := by
  have hp : x * y ≤ 18446744073709551615 * 18446744073709551615 := Int.mul_le_mul (by omega) (by omega) hy (by decide)
  have hp0 : 0 ≤ x * y := Int.mul_nonneg hx hy
  generalize x * y = p at *
  exact ⟨_, _, _, _, _, _, rfl, rfl, rfl, rfl, rfl, rfl, by omega, by omega, by omega, by omega, by omega, by omega, by omega, by omega, by omega, by omega, by omega, by omega, by omega, by omega, by omega⟩
theorem sumf_succ (B : Int) (f : Nat → Int) (n : Nat) : sumf B f (n + 1) = sumf B f n + f n * B ^ n := rfl
theorem mul_add (H G D X b y cr wd s2 k' Bk : Int) (h : H + cr * (D * Bk) = G + X * D * b) (hs : s2 + 18446744073709551616 * k' = X * y + wd + cr) : H + (s2 - wd) * (D * Bk) + k' * (D * (Bk * 18446744073709551616)) = G + X * D * (b + y * Bk) := by
  have : s2 = X * y + wd + cr - 18446744073709551616 * k' := by omega
  subst this; grind
theorem low_add (S D F G x y c r q : Int) (h : S + c * D = F + 38 * G) (hr : r + 18446744073709551616 * q = y * 38 + x + c) : (S + r * D) + q * (D * 18446744073709551616) = (F + x * D) + 38 * (G + y * D) := by
  have : r = y * 38 + x + c - 18446744073709551616 * q := by omega
  subst this; grind
theorem lh_mod (A o L H m : Nat) (h : A + o * 115792089237316195423570985008687907853269984665640564039457584007913129639936 = L + 38 * H) (hm : m = L + 115792089237316195423570985008687907853269984665640564039457584007913129639936 * H) : (A + o * 115792089237316195423570985008687907853269984665640564039457584007913129639936) % PP = m % PP := by
  have e : 115792089237316195423570985008687907853269984665640564039457584007913129639936 = 38 + 2 * PP := by decide +kernel
  rw [h, hm, e, Nat.add_mul, ← Nat.add_assoc, show 2 * PP * H = PP * (2 * H) by ac_rfl, Nat.add_mul_mod_self_left]

set_option maxRecDepth 100000 in
set_option maxHeartbeats 4000000 in
theorem times_any (a b : Nat) (ha : a < 115792089237316195423570985008687907853269984665640564039457584007913129639936) (hb : b < 115792089237316195423570985008687907853269984665640564039457584007913129639936) (w : World) :
    Calls Try.prog 31 #[.agg (e4 a), .agg (e4 b)] w (ElP (a * b % PP) w) := by
  obtain ⟨r, hr⟩ : ∃ r, r = a * b % PP := ⟨_, rfl⟩
  rw [← hr]
  have Ha := Lib.hid ha; clear ha
  have Hb := Lib.hid hb; clear hb
  have Hr := Lib.hid hr; clear hr
  go_enter Try.func31, Try.ntmps31
  have M0 := Lib.hid (((Has.new w (e4 a) 36).alloc (.cells (e4 b) 36)).alloc (.cells (#[.int .u64 0, .int .u64 0, .int .u64 0, .int .u64 0] : Array Value) 36) |>.alloc (.cells (#[.int .u64 0, .int .u64 0, .int .u64 0, .int .u64 0, .int .u64 0, .int .u64 0, .int .u64 0, .int .u64 0] : Array Value) 96))
  go_wp2_with (refine wpList_load_row rfl 36 _ rfl (w.heap.size) rfl 36 (e4 a) (0, 0) _ M0.out Try.underlying36 rfl (by rw [e4_size]; kernel_rfl) ?_)
  clear M0
  go_loopw [21] (fun i wr => ∃ (k : Nat) (h : Nat → Int), k ≤ 4 ∧ i = .int .i64 k ∧ (∀ j, 0 ≤ h j ∧ h j < 18446744073709551616) ∧ (∀ j, k + 4 ≤ j → h j = 0) ∧ sumf 18446744073709551616 h (k + 4) = sumf 18446744073709551616 (dg 18446744073709551616 a) k * b ∧ Has wr w.heap.size (e4 a) 36 ∧ Has wr (w.heap.size + 1) (e4 b) 36 ∧ HasN wr (w.heap.size + 1 + 1) 4 36 ∧ Has wr (w.heap.size + 1 + 1 + 1) (row .u64 8 h) 96 ∧ Below w.heap.size w wr) (fun i _ => 4 - (intOf i).toNat)
  case atStart => exact ⟨0, fun _ => 0, by omega, rfl, fun j => by simp, fun _ _ => rfl, by rw [sumf_zero _ _ _ (fun _ _ => rfl)]; simp [sumf], ((Has.new _ _ _).alloc _ |>.alloc _).alloc _, ((Has.new1 _ _ _ _).alloc _).alloc _, (HasN.new2 _ _ _ _ _ 4 rfl).alloc _, Has.new3 _ _ _ _ _ _, below_4 _ _ _ _ _⟩
  case round =>
    obtain ⟨i, g, hi, rfl, hd, hz, hs, m0, m1, m2, m3, hB⟩ := hrel
    have M0 := Lib.hid m0; clear m0
    have M1 := Lib.hid m1; clear m1
    have M2 := Lib.hid m2; clear m2
    have M3 := Lib.hid m3; clear m3
    have Hd := Lib.hid hd; clear hd
    have Hz := Lib.hid hz; clear hz
    have Hs := Lib.hid hs; clear hs
    by_cases hlt : i < 4
    · have hix := fun w => run_index_row w 36 34 4 .u64 Try.underlying36 Try.underlying34 sz_u64 (dg 18446744073709551616 a) i hlt
      have x0 := w_nn a i
      have x1 := w_lt a i
      obtain ⟨x, hx⟩ : ∃ x, x = dg 18446744073709551616 a i := ⟨_, rfl⟩
      rw [← hx] at hix x0 x1
      rw [show row .u64 4 (dg 18446744073709551616 a) = e4 a from rfl] at hix
      have Hx := Lib.hid hx; clear hx
      go_wp2_with (refine wpList_load_row rfl 36 _ rfl (w.heap.size + 1) rfl 36 (e4 b) (0, 0) _ M1.out Try.underlying36 rfl (by rw [e4_size]; kernel_rfl) ?_)
      obtain ⟨w2, rfl⟩ : ∃ w2 : World, w2 = wr := ⟨_, rfl⟩
      go_loopw [8, 26] (fun u s wr => ∃ (k : Nat) (h : Nat → Int) (cr : Int), k ≤ 4 ∧ s = .int .i64 k ∧ u = .int .u64 cr ∧ 0 ≤ cr ∧ cr < 18446744073709551616 ∧ (∀ j, 0 ≤ h j ∧ h j < 18446744073709551616) ∧ (∀ j, i + 4 ≤ j → h j = 0) ∧ sumf 18446744073709551616 h (i + 4) + cr * (18446744073709551616 ^ i * 18446744073709551616 ^ k) = sumf 18446744073709551616 g (i + 4) + x * 18446744073709551616 ^ i * sumf 18446744073709551616 (dg 18446744073709551616 b) k ∧ Has wr w.heap.size (e4 a) 36 ∧ Has wr (w.heap.size + 1) (e4 b) 36 ∧ HasN wr (w.heap.size + 1 + 1) 4 36 ∧ Has wr (w.heap.size + 1 + 1 + 1) (row .u64 8 h) 96 ∧ Below w.heap.size w wr) (fun _ s _ => 4 - (intOf s).toNat)
      case atStart => exact ⟨0, g, 0, by omega, rfl, rfl, by omega, by omega, Hd.out, Hz.out, by rw [show sumf 18446744073709551616 (dg 18446744073709551616 b) 0 = 0 from rfl]; simp, M0.out, M1.out, M2.out, M3.out, hB⟩
      case round =>
        clear M0 M1 M2 M3 hB
        obtain ⟨k, h, cr, hk, rfl, rfl, cr0, cr1, hd, hz, hs, m0, m1, m2, m3, hB⟩ := hrel
        have He := Lib.hid hd; clear hd
        have Hy := Lib.hid hz; clear hz
        have Ht := Lib.hid hs; clear hs
        have M0 := Lib.hid m0; clear m0
        have M1 := Lib.hid m1; clear m1
        have M2 := Lib.hid m2; clear m2
        have M3 := Lib.hid m3; clear m3
        by_cases hlk : k < 4
        · have hiy := fun w => run_index_row w 36 34 4 .u64 Try.underlying36 Try.underlying34 sz_u64 (dg 18446744073709551616 b) k hlk
          have y0 := w_nn b k
          have y1 := w_lt b k
          have h3 := M3.out.cell (i + k) (by omega)
          have hfz := M3.out.frozen (i + k)
          have z0 := (He.out (i + k)).1
          have z1 := (He.out (i + k)).2
          obtain ⟨y, hy⟩ : ∃ y, y = dg 18446744073709551616 b k := ⟨_, rfl⟩
          obtain ⟨wd, hwd⟩ : ∃ z, z = h (i + k) := ⟨_, rfl⟩
          rw [← hy] at hiy y0 y1
          rw [← hwd] at h3 z0 z1
          rw [show row .u64 4 (dg 18446744073709551616 b) = e4 b from rfl] at hiy
          have hm := fun w => mul64 x y x0 x1 y0 y1 w
          obtain ⟨hi', lo, s1, c1, s2, c2, e1, e2, e3, e4', e5, e6, b1, b2, b3, b4, b5, b6, b7, b8, b9, b10, b11, b12, b13, b14, hsum⟩ := mul_step x y wd cr x0 x1 y0 y1 z0 z1 cr0 cr1
          have ka := fun w => add64_0 lo wd b3 z0 w
          have kb := fun w => add64_0 s1 cr b5 cr0 w
          rw [e1, e2] at hm
          rw [e3, e4'] at ka
          rw [e5, e6] at kb
          have HyK := Lib.hid hy; clear hy
          have Hwd := Lib.hid hwd; clear hwd
          have Hm := Lib.hid hm; clear hm
          have Hsum := Lib.hid hsum; clear hsum
          clear e1 e2 e3 e4' e5 e6
          go_wp2_with fail
          refine (Hm.out _).mono ?_
          rintro e w3 ⟨rfl, rfl⟩
          go_wp2_with fail
          go_roundw
          case measure => simp [intOf]; omega
          case rel =>
            refine ⟨k + 1, upd h (i + k) s2, hi' + c1 + c2, by omega, by go_num, rfl, by omega, b14, ?_, ?_, ?_, M0.out.other _ _ (by simp <;> omega), M1.out.other _ _ (by simp <;> omega), M2.out.other _ _ (by simp <;> omega), M3.out.set _ _, by first | exact hB.setCell (by simp <;> omega) _ | exact (hB.setCell (by simp <;> omega) _).drew⟩
            · intro j
              by_cases e : j = i + k
              · subst e; rw [upd_same]; exact ⟨b9, b10⟩
              · rw [upd_ne _ _ _ _ e]; exact He.out j
            · intro j hj; rw [upd_ne _ _ _ _ (by omega)]; exact Hy.out j hj
            · rw [sumf_upd _ _ _ _ _ (by omega), ← Hwd.out, Int.pow_add]
              simp only [sumf]
              rw [← HyK.out, Int.pow_succ]
              exact mul_add _ _ _ _ _ _ _ _ _ _ _ Ht.out Hsum.out
        · obtain rfl : k = 4 := by omega
          have h3 := M3.out.cell (i + 4) (by omega)
          have hfz := M3.out.frozen (i + 4)
          clear hix
          go_wp2_with fail
          go_roundw
          case measure => simp [intOf]; omega
          case rel =>
            refine ⟨i + 1, upd h (i + 4) cr, by omega, by go_num, ?_, ?_, ?_, M0.out.other _ _ (by simp <;> omega), M1.out.other _ _ (by simp <;> omega), M2.out.other _ _ (by simp <;> omega), M3.out.set _ _, by first | exact hB.setCell (by simp <;> omega) _ | exact (hB.setCell (by simp <;> omega) _).drew⟩
            · intro j
              by_cases e : j = i + 4
              · subst e; rw [upd_same]; exact ⟨cr0, cr1⟩
              · rw [upd_ne _ _ _ _ e]; exact He.out j
            · intro j hj; rw [upd_ne _ _ _ _ (by omega)]; exact Hy.out j (by omega)
            · rw [show i + 1 + 4 = (i + 4) + 1 by omega]
              have e1 := Ht.out
              rw [Hs.out, sum4 b Hb.out] at e1
              rw [sumf_succ _ (upd h (i + 4) cr) (i + 4), sumf_succ _ (dg 18446744073709551616 a) i, sumf_upd_above _ _ _ _ _ (Nat.le_refl _), upd_same, Int.pow_add 18446744073709551616 i 4, Int.add_mul, ← Hx.out]
              exact e1
    · obtain rfl : i = 4 := by omega
      have hwide := Hs.out
      rw [sum4 a Ha.out] at hwide
      have hlow := e4_of g (fun j _ => Hd.out j)
      have hhigh := e4_of (fun j => g (j + 4)) (fun j _ => Hd.out (j + 4))
      obtain ⟨lw, hlw, _, hlws⟩ := hlow
      obtain ⟨hg, hhg, _, hhgs⟩ := hhigh
      have hsp := sumf_split 18446744073709551616 g 4 4
      rw [show (4 + 4 : Nat) = 8 from rfl] at hsp
      rw [show (4 + 4 : Nat) = 8 from rfl, hsp, hlws, hhgs, p64_4] at hwide
      have hnum : a * b = lw + 115792089237316195423570985008687907853269984665640564039457584007913129639936 * hg := by
        have : ((a * b : Nat) : Int) = ((lw + 115792089237316195423570985008687907853269984665640564039457584007913129639936 * hg : Nat) : Int) := by rw [Int.natCast_mul, ← hwide, Int.natCast_add, Int.natCast_mul]; rfl
        exact Int.ofNat_inj.1 this
      have N0 := Lib.hid (M2.out.alloc (.cells (#[.int .u64 0, .int .u64 0, .int .u64 0, .int .u64 0] : Array Value) 36))
      have N3 := Lib.hid (M3.out.alloc (.cells (#[.int .u64 0, .int .u64 0, .int .u64 0, .int .u64 0] : Array Value) 36))
      have N4 := Lib.hid (Has.new wr (#[.int .u64 0, .int .u64 0, .int .u64 0, .int .u64 0] : Array Value) 36)
      have HB := Lib.hid (hB.alloc hB.size (.cells (#[.int .u64 0, .int .u64 0, .int .u64 0, .int .u64 0] : Array Value) 36))
      have hl3 := M3.out.lt
      have Hnum := Lib.hid hnum; clear hnum
      have Hlws := Lib.hid hlws; clear hlws
      have Hhgs := Lib.hid hhgs; clear hhgs
      clear hwide hsp M0 M1 M2 M3 hB Ha Hb Hs
      rw [show ((4 : Nat) : Int) = 4 from rfl]
      go_wp2_with fail
      obtain ⟨w2, rfl⟩ : ∃ w2 : World, w2 = wr := ⟨_, rfl⟩
      go_loopw [15, 68] (fun u s wr => ∃ (k : Nat) (h : Nat → Int) (cr : Int), k ≤ 4 ∧ s = .int .i64 k ∧ u = .int .u64 cr ∧ 0 ≤ cr ∧ cr < 18446744073709551616 ∧ (∀ j, 0 ≤ h j ∧ h j < 18446744073709551616) ∧ sumf 18446744073709551616 h k + cr * 18446744073709551616 ^ k = sumf 18446744073709551616 g k + 38 * sumf 18446744073709551616 (fun j => g (j + 4)) k ∧ HasN wr (w.heap.size + 1 + 1) 4 36 ∧ Has wr (w.heap.size + 1 + 1 + 1) (row .u64 8 g) 96 ∧ Has wr w2.heap.size (row .u64 4 h) 36 ∧ Below w.heap.size w wr) (fun _ s _ => 4 - (intOf s).toNat)
      case atStart => exact ⟨0, fun _ => 0, 0, by omega, rfl, rfl, by omega, by omega, fun j => by simp, by simp [sumf], N0.out, N3.out, N4.out, HB.out⟩
      case round =>
        clear N0 N3 N4 HB
        obtain ⟨k, h, cr, hk, rfl, rfl, cr0, cr1, hd, hs, m2, m3, m4, hB⟩ := hrel
        have He := Lib.hid hd; clear hd
        have M2 := Lib.hid m2; clear m2
        have M3 := Lib.hid m3; clear m3
        have M4 := Lib.hid m4; clear m4
        have Hs := Lib.hid hs; clear hs
        by_cases hlk : k < 4
        · have h1 := M3.out.cell k (by omega)
          have h2 := M3.out.cell (k + 4) (by omega)
          have h3 := M4.out.cell k hlk
          have hfz := M4.out.frozen k
          have x0 := (Hd.out (k + 4)).1
          have x1 := (Hd.out (k + 4)).2
          have z0 := (Hd.out k).1
          have z1 := (Hd.out k).2
          obtain ⟨x, hx⟩ : ∃ x, x = g (k + 4) := ⟨_, rfl⟩
          obtain ⟨wd, hwd⟩ : ∃ z, z = g k := ⟨_, rfl⟩
          rw [← hx] at h2 x0 x1
          rw [← hwd] at h1 z0 z1
          have hm := fun w => mul64 x 38 x0 x1 (by omega) (by omega) w
          obtain ⟨hi', lo, s1, c1, s2, c2, e1, e2, e3, e4', e5, e6, b1, b2, b3, b4, b5, b6, b7, b8, b9, b10, b11, b12, b13, b14, hsum⟩ := mul_step x 38 wd cr x0 x1 (by omega) (by omega) z0 z1 cr0 cr1
          have ka := fun w => add64_0 lo wd b3 z0 w
          have kb := fun w => add64_0 s1 cr b5 cr0 w
          rw [e1, e2] at hm
          rw [e3, e4'] at ka
          rw [e5, e6] at kb
          have Hx := Lib.hid hx; clear hx
          have Hwd := Lib.hid hwd; clear hwd
          have Hm := Lib.hid hm; clear hm
          have Hsum := Lib.hid hsum; clear hsum
          clear e1 e2 e3 e4' e5 e6
          go_wp2_with fail
          refine (Hm.out _).mono ?_
          rintro e w3 ⟨rfl, rfl⟩
          go_wp2_with fail
          go_roundw
          case measure => simp [intOf]; omega
          case rel =>
            refine ⟨k + 1, upd h k s2, hi' + c1 + c2, by omega, by go_num, rfl, by omega, b14, ?_, ?_, M2.out.other _ _ (by simp <;> omega), M3.out.other _ _ (by simp <;> omega), M4.out.set _ _, by first | exact hB.setCell (by simp <;> omega) _ | exact (hB.setCell (by simp <;> omega) _).drew⟩
            · intro j
              by_cases e : j = k
              · subst e; rw [upd_same]; exact ⟨b9, b10⟩
              · rw [upd_ne _ _ _ _ e]; exact He.out j
            · simp only [sumf]
              rw [sumf_upd_above _ _ _ _ _ (Nat.le_refl _), upd_same, ← Hx.out, ← Hwd.out, Int.pow_succ]
              exact low_add _ _ _ _ _ _ _ _ _ Hs.out Hsum.out
        · obtain rfl : k = 4 := by omega
          obtain ⟨A', hA', hrow, hsumA⟩ := e4_of h (fun j _ => He.out j)
          have hs4 := Hs.out
          rw [hsumA, Hlws.out, Hhgs.out, p64_4] at hs4
          have m4 := M4.out
          rw [hrow] at m4
          obtain ⟨o', rfl⟩ := Int.eq_ofNat_of_zero_le cr0
          have hf := fun w => fold_any A' o' hA' (by omega) w
          have hres : (A' + o' * 115792089237316195423570985008687907853269984665640564039457584007913129639936) % PP = r := by rw [Hr.out]; exact lh_mod A' o' lw hg (a * b) (by omega) Hnum.out
          rw [hres] at hf
          have Q4 := Lib.hid m4; clear m4 M4
          have Hf := Lib.hid hf; clear hf
          clear hrow hsumA hs4 hA' hres hlw hhg
          go_wp2_with (refine wpList_load_row rfl 36 _ rfl (w2.heap.size) rfl 36 (e4 A') (0, 0) _ Q4.out Try.underlying36 rfl (by rw [e4_size]; kernel_rfl) ?_)
          refine (Hf.out _).mono ?_
          rintro e w4 ⟨m, hm, hmr, rfl, b1⟩
          obtain ⟨Z, hZ, mz⟩ := M2.out.call b1
          have HBB := Lib.hid (below_setRow (held_next hB b1) (w.heap.size + 1 + 1) (e4 m) (by omega))
          have Mz := Lib.hid mz; clear mz
          have HZ := Lib.hid hZ; clear hZ
          have Hm := Lib.hid hm; clear hm
          have Hmr := Lib.hid hmr; clear hmr
          clear b1
          go_wp2_with (refine wpList_store_row rfl 36 _ _ rfl (w.heap.size + 1 + 1) _ rfl rfl 36 Z Mz.out (by rw [e4_size]; kernel_rfl) (HZ.out.trans (e4_size _).symm) (row_one _ _ _) ?_)
          exact bodyPost_ret (v := .agg (e4 m)) (results_cell_row (t := 36) (by rfl) _ _ (w.heap.size + 1 + 1) _ _ _ rfl (Mz.out.setRow _) Try.underlying36 rfl (by rw [e4_size]; kernel_rfl)) rfl ⟨m, Hm.out, Hmr.out, rfl, HBB.out⟩
end Go.Proofs.Ytjiagjonlcadiaa
