/- The program's field: an element is four words of 64 bits; fold. -/
import Derived.Test.YtjiagjonlcadiaaRefG
import Derived.Test.YtjiagjonlcadiaaEq
namespace Go.Proofs.Ytjiagjonlcadiaa
open Go.RowKit Go.Lib

/-- the words of a number -/
def e4 (n : Nat) : Array Value := row .u64 4 (dg 18446744073709551616 n)
theorem e4_size (n : Nat) : (e4 n).size = 4 := row_size _ _ _
/-- an element that is r modulo the prime -/
def ElP (r : Nat) (w : World) (e : Ending) (w' : World) : Prop := ∃ m : Nat, m < 115792089237316195423570985008687907853269984665640564039457584007913129639936 ∧ m % PP = r ∧ e = .returned (.agg (e4 m)) ∧ Below w.heap.size w w'

theorem w_nn (n i : Nat) : 0 ≤ dg 18446744073709551616 n i := (dg_bd _ n i (by decide)).1
theorem w_lt (n i : Nat) : dg 18446744073709551616 n i < 18446744073709551616 := (dg_bd _ n i (by decide)).2
theorem p64_4 : (18446744073709551616 : Int) ^ 4 = 115792089237316195423570985008687907853269984665640564039457584007913129639936 := by decide +kernel
theorem n64_4 : (18446744073709551616 : Nat) ^ 4 = 115792089237316195423570985008687907853269984665640564039457584007913129639936 := by decide +kernel
theorem sum4 (n : Nat) (h : n < 115792089237316195423570985008687907853269984665640564039457584007913129639936) : sumf 18446744073709551616 (dg 18446744073709551616 n) 4 = n := by
  have := sumf_dg 18446744073709551616 n 4
  rw [n64_4, Nat.mod_eq_of_lt h] at this
  exact this
/-- four words are a number's -/
theorem e4_of (h : Nat → Int) (hd : ∀ j, j < 4 → 0 ≤ h j ∧ h j < 18446744073709551616) : ∃ m : Nat, m < 115792089237316195423570985008687907853269984665640564039457584007913129639936 ∧ row .u64 4 h = e4 m ∧ sumf 18446744073709551616 h 4 = m := by
  have h0 := sumf_nonneg 18446744073709551616 (by decide) h 4 (fun i hi => (hd i hi).1)
  have h1 := sumf_lt 18446744073709551616 (by decide) h 4 (fun i hi => (hd i hi).2)
  rw [p64_4] at h1
  obtain ⟨m, hm⟩ := Int.eq_ofNat_of_zero_le h0
  refine ⟨m, by omega, row_ext _ _ _ _ (sumf_uniq 18446744073709551616 h m 4 hd hm), hm⟩
theorem mod38 (A A' o o' : Nat) (h : A' + o' * 115792089237316195423570985008687907853269984665640564039457584007913129639936 = A + 38 * o) : (A' + o' * 115792089237316195423570985008687907853269984665640564039457584007913129639936) % PP = (A + o * 115792089237316195423570985008687907853269984665640564039457584007913129639936) % PP := by
  have e : 115792089237316195423570985008687907853269984665640564039457584007913129639936 = 38 + 2 * PP := by decide +kernel
  rw [h, e, Nat.mul_add, ← Nat.add_assoc, show o * (2 * PP) = PP * (2 * o) by ac_rfl, Nat.add_mul_mod_self_left, Nat.mul_comm 38 o]
theorem fold_step (S D g c r q : Int) (F : Int) (h : S + c * D = F) (hr : g + c = r + 18446744073709551616 * q) : (S + r * D) + q * (D * 18446744073709551616) = F + g * D := by
  have : g = r + 18446744073709551616 * q - c := by omega
  subst this; grind

set_option maxRecDepth 100000 in
set_option maxHeartbeats 2000000 in
theorem fold_any (n o : Nat) (hn : n < 115792089237316195423570985008687907853269984665640564039457584007913129639936) (ho : o < 18446744073709551616) (w : World) :
    Calls Try.prog 77 #[.agg (e4 n), .int .u64 o] w (ElP ((n + o * 115792089237316195423570985008687907853269984665640564039457584007913129639936) % PP) w) := by
  obtain ⟨r, hr⟩ : ∃ r, r = (n + o * 115792089237316195423570985008687907853269984665640564039457584007913129639936) % PP := ⟨_, rfl⟩
  rw [← hr]
  have Hn := Lib.hid hn; clear hn
  have Ho := Lib.hid ho; clear ho
  have Hr := Lib.hid hr; clear hr
  go_enter Try.func77, Try.ntmps77
  go_wp2_with fail
  go_loopg [1] (n + o * 115792089237316195423570985008687907853269984665640564039457584007913129639936) (fun gk s wr => ∃ A ov : Nat, gk = A + ov * 115792089237316195423570985008687907853269984665640564039457584007913129639936 ∧ gk % PP = r ∧ A < 115792089237316195423570985008687907853269984665640564039457584007913129639936 ∧ ov < 18446744073709551616 ∧ s = .int .u64 ov ∧ Has wr w.heap.size (e4 A) 36 ∧ HasN wr (w.heap.size + 1) 4 36 ∧ Below w.heap.size w wr)
  case atStart => exact ⟨n, o, rfl, Hr.out.symm, Hn.out, Ho.out, rfl, (Has.new _ _ _).alloc _, HasN.new1 _ _ _ _ 4 rfl, below_2 _ _ _⟩
  case round =>
    obtain ⟨A, ov, hgk, hmod, hA, hov, rfl, m0, m1, hB⟩ := hrel
    by_cases hz : 0 < ov
    · have hdec : (A : Int) = sumf 18446744073709551616 (dg 18446744073709551616 A) 4 := (sum4 A hA).symm
      have hm := fun w => mul64 (ov : Int) 38 (by omega) (by omega) (by omega) (by omega) w
      obtain ⟨hi, hhi⟩ : ∃ x : Int, x = (ov : Int) * 38 / 18446744073709551616 := ⟨_, rfl⟩
      obtain ⟨lo, hlo⟩ : ∃ x : Int, x = (ov : Int) * 38 % 18446744073709551616 := ⟨_, rfl⟩
      rw [← hhi, ← hlo] at hm
      have hi0 : 0 ≤ hi := by omega
      have hi1 : hi ≤ 37 := by omega
      have lo0 : 0 ≤ lo := by omega
      have lo1 : lo < 18446744073709551616 := by omega
      have hsplit : lo + hi * 18446744073709551616 = 38 * (ov : Int) := by omega
      have M0 := Lib.hid m0; clear m0
      have M1 := Lib.hid m1; clear m1
      have Hgk := Lib.hid hgk; clear hgk
      have Hmod := Lib.hid hmod; clear hmod
      have HA := Lib.hid hA; clear hA
      have Hdec := Lib.hid hdec; clear hdec
      have Hm := Lib.hid hm; clear hm
      have Hsplit := Lib.hid hsplit; clear hsplit
      clear hhi hlo
      go_wp2_with fail
      refine (Hm.out _).mono ?_
      rintro e w2 ⟨rfl, rfl⟩
      go_wp2_with fail
      obtain ⟨w3, rfl⟩ : ∃ w3 : World, w3 = wr := ⟨_, rfl⟩
      go_loopw [6, 15] (fun s i wr => ∃ (k : Nat) (h : Nat → Int) (c : Int), k ≤ 4 ∧ i = .int .i64 k ∧ s = .int .u64 c ∧ 0 ≤ c ∧ c < 18446744073709551616 ∧ (1 ≤ k → c ≤ 38) ∧ (∀ j, j < k → 0 ≤ h j ∧ h j < 18446744073709551616) ∧ (∀ j, k ≤ j → h j = dg 18446744073709551616 A j) ∧ sumf 18446744073709551616 h k + c * 18446744073709551616 ^ k = sumf 18446744073709551616 (dg 18446744073709551616 A) k + (if k = 0 then lo else 38 * (ov : Int)) ∧ Has wr w.heap.size (row .u64 4 h) 36 ∧ HasN wr (w.heap.size + 1) 4 36 ∧ Below w.heap.size w wr) (fun _ i _ => 4 - (intOf i).toNat)
      case atStart => exact ⟨0, dg 18446744073709551616 A, lo, by omega, rfl, rfl, lo0, lo1, fun h => by omega, fun j hj => by omega, fun _ _ => rfl, by simp [sumf], M0.out, M1.out, hB⟩
      case round =>
        clear M0 M1 hB
        obtain ⟨k, h, c, hk, rfl, rfl, c0, c1, hc, hd, hg, hs, m0, m1, hB⟩ := hrel
        have M0 := Lib.hid m0; clear m0
        have M1 := Lib.hid m1; clear m1
        have Hc := Lib.hid hc; clear hc
        have Hd := Lib.hid hd; clear hd
        have Hg := Lib.hid hg; clear hg
        have Hs := Lib.hid hs; clear hs
        by_cases hlt : k < 4
        · have h1 := M0.out.cell k hlt
          have hfz := M0.out.frozen k
          have x0 := w_nn A k
          have x1 := w_lt A k
          rw [Hg.out k (Nat.le_refl _)] at h1
          obtain ⟨x, hx⟩ : ∃ x, x = dg 18446744073709551616 A k := ⟨_, rfl⟩
          rw [← hx] at h1 x0 x1
          have ka := fun w => add64_0 x c x0 c0 w
          obtain ⟨s, hss⟩ : ∃ s, s = (x + c) % 18446744073709551616 := ⟨_, rfl⟩
          obtain ⟨d, hdd⟩ : ∃ d, d = (x + c) / 18446744073709551616 := ⟨_, rfl⟩
          rw [← hss, ← hdd] at ka
          have s0 : 0 ≤ s := by omega
          have s1 : s < 18446744073709551616 := by omega
          have d0 : 0 ≤ d := by omega
          have d1 : d ≤ 1 := by omega
          have hsum : x + c = s + 18446744073709551616 * d := by omega
          have Hx := Lib.hid hx; clear hx
          have Hsum := Lib.hid hsum; clear hsum
          clear hss hdd
          by_cases hk0 : k = 0
          · subst hk0
            go_wp2_with fail
            go_roundw
            case measure => simp [intOf]
            case rel =>
              refine ⟨1, upd h 0 s, d + hi, by omega, by go_num, rfl, by omega, by omega, fun _ => by omega, ?_, ?_, ?_, M0.out.set _ _, M1.out.other _ _ (by simp <;> omega), by first | exact hB.setCell (Nat.le_refl _) _ | exact (hB.setCell (Nat.le_refl _) _).drew⟩
              · intro j hj
                obtain rfl : j = 0 := by omega
                rw [upd_same]; exact ⟨s0, s1⟩
              · intro j hj; rw [upd_ne _ _ _ _ (by omega)]; exact Hg.out j (by omega)
              · have := Hsum.out
                have h3 := Hsplit.out
                have h4 := Hs.out
                simp only [sumf, upd_same, Int.pow_zero, Int.mul_one, Int.zero_add, if_true, Int.pow_one] at h4 ⊢
                rw [if_neg (by decide), ← Hx.out]
                omega
          · have ht : ((k : Int) == 0) = false := by simp; omega
            go_wp2_with fail
            go_roundw
            case measure => simp [intOf]; omega
            case rel =>
              refine ⟨k + 1, upd h k s, d, by omega, by go_num, rfl, by omega, by omega, fun _ => by omega, ?_, ?_, ?_, M0.out.set _ _, M1.out.other _ _ (by simp <;> omega), by first | exact hB.setCell (Nat.le_refl _) _ | exact (hB.setCell (Nat.le_refl _) _).drew⟩
              · intro j hj
                by_cases e : j = k
                · subst e; rw [upd_same]; exact ⟨s0, s1⟩
                · rw [upd_ne _ _ _ _ e]; exact Hd.out j (by omega)
              · intro j hj; rw [upd_ne _ _ _ _ (by omega)]; exact Hg.out j (by omega)
              · have h4 := Hs.out
                rw [if_neg hk0] at h4
                rw [if_neg (by omega)]
                simp only [sumf]
                rw [sumf_upd_above _ _ _ _ _ (Nat.le_refl _), upd_same, ← Hx.out, Int.pow_succ]
                have := fold_step _ _ x _ _ _ _ h4 Hsum.out
                omega
        · obtain rfl : k = 4 := by omega
          obtain ⟨A', hA', hrow, hsum⟩ := e4_of h Hd.out
          have hs4 := Hs.out
          rw [hsum, ← Hdec.out, if_neg (by omega), p64_4] at hs4
          have m0 := M0.out
          rw [hrow] at m0
          have hc38 := Hc.out (by omega)
          obtain ⟨o', rfl⟩ := Int.eq_ofNat_of_zero_le c0
          have hnum : A' + o' * 115792089237316195423570985008687907853269984665640564039457584007913129639936 = A + 38 * ov := by omega
          have hmod2 : (A' + o' * 115792089237316195423570985008687907853269984665640564039457584007913129639936) % PP = r := by rw [mod38 A A' ov o' hnum, ← Hgk.out]; exact Hmod.out
          have hms : A' + o' * 115792089237316195423570985008687907853269984665640564039457584007913129639936 < gk := by rw [Hgk.out]; omega
          have M0 := Lib.hid m0; clear m0
          have Hmod2 := Lib.hid hmod2; clear hmod2
          have Hms := Lib.hid hms; clear hms
          have HA' := Lib.hid hA'; clear hA'
          clear hrow hsum hs4 hnum
          go_wp2_with fail
          go_roundg (A' + o' * 115792089237316195423570985008687907853269984665640564039457584007913129639936)
          case measure => exact Hms.out
          case rel => exact ⟨A', o', rfl, Hmod2.out, HA'.out, by omega, rfl, M0.out, M1.out, hB⟩
    · obtain rfl : ov = 0 := by omega
      have hfin : A % PP = r := by rw [← hmod, hgk, Nat.zero_mul, Nat.add_zero]
      obtain ⟨Z, hZ, mz⟩ := m1
      have HBB := Lib.hid (below_setRow hB (w.heap.size + 1) (e4 A) (by omega))
      have M0 := Lib.hid m0; clear m0
      have Mz := Lib.hid mz; clear mz
      have HZ := Lib.hid hZ; clear hZ
      have Hfin := Lib.hid hfin; clear hfin
      have HA := Lib.hid hA; clear hA
      clear hmod hgk hov
      go_wp2_with (first | (refine wpList_load_row rfl 36 _ rfl (w.heap.size) rfl 36 (e4 A) (0, 0) _ M0.out Try.underlying36 rfl (by rw [e4_size]; kernel_rfl) ?_) | (refine wpList_store_row rfl 36 _ _ rfl (w.heap.size + 1) _ rfl rfl 36 Z Mz.out (by rw [e4_size]; kernel_rfl) (HZ.out.trans (e4_size _).symm) (row_one _ _ _) ?_))
      exact bodyPost_ret (v := .agg (e4 A)) (results_cell_row (t := 36) (by rfl) _ _ (w.heap.size + 1) _ _ _ rfl (Mz.out.setRow _) Try.underlying36 rfl (by rw [e4_size]; kernel_rfl)) rfl ⟨A, HA.out, Hfin.out, rfl, HBB.out⟩
end Go.Proofs.Ytjiagjonlcadiaa
