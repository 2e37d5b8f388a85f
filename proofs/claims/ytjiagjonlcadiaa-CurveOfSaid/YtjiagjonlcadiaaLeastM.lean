/- Plain sums behind the reference's 'least'. -/
import Derived.Test.YtjiagjonlcadiaaRefA
namespace Go.Proofs.Ytjiagjonlcadiaa
open Go.RowKit Go.Lib

theorem sumf_split (B : Int) (g : Nat → Int) (a b : Nat) : sumf B g (a + b) = sumf B g a + B ^ a * sumf B (fun j => g (j + a)) b := by
  induction b with
  | zero => simp [sumf]
  | succ b ih =>
    rw [← Nat.add_assoc]
    simp only [sumf]
    rw [ih, Int.mul_add, Int.pow_add, Nat.add_comm b a]
    have : g (a + b) * (B ^ a * B ^ b) = B ^ a * (g (a + b) * B ^ b) := by ac_rfl
    omega
theorem sumf_lin (B c : Int) (f g : Nat → Int) (n : Nat) : sumf B (fun j => f j + c * g j) n = sumf B f n + c * sumf B g n := by
  induction n with
  | zero => simp [sumf]
  | succ n ih =>
    simp only [sumf]
    rw [ih, Int.mul_add, Int.add_mul, Int.mul_assoc]
    omega
theorem carry_step (D S F x c r q : Int) (h : S + c * D = F) (hr : x + c = r + 4096 * q) : (S + r * D) + q * (D * 4096) = F + x * D := by
  have : x = r + 4096 * q - c := by omega
  subst this; grind

/-- behind the k-th round the number is below this -/
def bnd (k : Nat) : Nat := if k = 0 then 878694100496718043517683302282418331810487718418343092402491322775749527474899974671687634004666183037093927858109549828751614463963730408009475621262727315456 else if k = 1 then 485667223056432267729865476705879726660601709763034880312953102434726071301302124544 else if k = 2 then 29642774844752946028434172162224104410437116074403984394101141506025761456259072 else 29642774844752946028434172162224104410437116074403984394101141506025761187823616
theorem bnd_le (k : Nat) : bnd k ≤ 878694100496718043517683302282418331810487718418343092402491322775749527474899974671687634004666183037093927858109549828751614463963730408009475621262727315456 := by unfold bnd; split <;> (try split) <;> (try split) <;> omega
theorem bnd_3 (k : Nat) (h : 3 ≤ k) : bnd k = 29642774844752946028434172162224104410437116074403984394101141506025761187823616 := by unfold bnd; rw [if_neg (by omega), if_neg (by omega), if_neg (by omega)]
theorem p22 : (4096 : Int) ^ 22 = 29642774844752946028434172162224104410437116074403984394101141506025761187823616 := by decide +kernel
theorem p44 : (4096 : Int) ^ 44 = 878694100496718043517683302282418331810487718418343092402491322775749527474899974671687634004666183037093927858109549828751614463963730408009475621262727315456 := by decide +kernel

theorem fold_num (k L H m m' : Nat) (hm : m = L + 29642774844752946028434172162224104410437116074403984394101141506025761187823616 * H) (hm' : m' = L + 9728 * H) (hL : L < 29642774844752946028434172162224104410437116074403984394101141506025761187823616) (hb : m < bnd k) (hk : k < 5) : m' % PP = m % PP ∧ m' < bnd (k + 1) := by
  have e : 29642774844752946028434172162224104410437116074403984394101141506025761187823616 = 9728 + 512 * PP := by decide +kernel
  constructor
  · rw [hm, hm', e, Nat.add_mul, ← Nat.add_assoc, show 512 * PP * H = PP * (512 * H) by ac_rfl, Nat.add_mul_mod_self_left]
  · clear e
    unfold bnd at hb ⊢
    split at hb
    · split <;> (try split) <;> (try split) <;> omega
    split at hb
    · split <;> (try split) <;> (try split) <;> omega
    split at hb
    · split <;> (try split) <;> (try split) <;> omega
    · split <;> (try split) <;> (try split) <;> omega

/-- the state of 'least' at the head of its first loop -/
structure Inv1 (n k : Nat) (h : Nat → Int) : Prop where
  bd : ∀ i, i < 44 → 0 ≤ h i ∧ h i ≤ 1099511627776
  num : ∃ m : Nat, sumf 4096 h 44 = m ∧ m % PP = n % PP ∧ m < bnd k
  norm : 4 ≤ k → ∀ i, i < 22 → h i < 4096
  /-- the high figures -/
  high : 1 ≤ k → ∀ i, 22 ≤ i → i < 44 → h i = 0

/-- behind the pass of the carry -/
structure Inv2 (n k : Nat) (g : Nat → Int) : Prop where
  bd : ∀ i, i < 44 → 0 ≤ g i ∧ g i < 4096
  num : ∃ m : Nat, sumf 4096 g 44 = m ∧ m % PP = n % PP ∧ m < bnd k

theorem inv2_of (n k : Nat) (h g : Nat → Int) (c : Int) (h1 : Inv1 n k h) (hc : 0 ≤ c) (hb : ∀ i, i < 44 → 0 ≤ g i ∧ g i < 4096) (hs : sumf 4096 g 44 + c * 4096 ^ 44 = sumf 4096 h 44) : Inv2 n k g := by
  obtain ⟨m, hm, hmod, hlt⟩ := h1.num
  refine ⟨hb, m, ?_, hmod, hlt⟩
  have hlt' := bnd_le k
  have h0 := sumf_nonneg 4096 (by decide) g 44 (fun i hi => (hb i hi).1)
  rw [hm, p44] at hs
  have : c = 0 := by omega
  subst this
  simpa using hs

theorem inv1_of (n k : Nat) (g : Nat → Int) (hk : k < 5) (hg : Inv2 n k g) (h : Nat → Int) (hl : ∀ i, i < 22 → h i = g i + 9728 * g (i + 22)) (hh : ∀ i, 22 ≤ i → i < 44 → h i = 0) : Inv1 n (k + 1) h := by
  obtain ⟨m, hm, hmod, hlt⟩ := hg.num
  have hsp := sumf_split 4096 g 22 22
  have hL0 := sumf_nonneg 4096 (by decide) g 22 (fun i hi => (hg.bd i (by omega)).1)
  have hL1 := sumf_lt 4096 (by decide) g 22 (fun i hi => (hg.bd i (by omega)).2)
  have hH0 := sumf_nonneg 4096 (by decide) (fun j => g (j + 22)) 22 (fun i hi => (hg.bd (i + 22) (by omega)).1)
  have hsum : sumf 4096 h 44 = sumf 4096 g 22 + 9728 * sumf 4096 (fun j => g (j + 22)) 22 := by
    rw [show (44 : Nat) = 22 + 22 from rfl, sumf_split, sumf_zero 4096 (fun j => h (j + 22)) 22 (fun i hi => hh (i + 22) (by omega) (by omega)), sumf_congr 4096 h (fun j => g j + 9728 * g (j + 22)) 22 hl,
      sumf_lin 4096 9728 g (fun j => g (j + 22)) 22]
    omega
  obtain ⟨L, eL⟩ := Int.eq_ofNat_of_zero_le hL0
  obtain ⟨H, eH⟩ := Int.eq_ofNat_of_zero_le hH0
  rw [show (22 + 22 : Nat) = 44 from rfl, hm, eL, eH] at hsp
  rw [eL, eH] at hsum
  rw [eL] at hL1
  rw [p22] at hsp hL1
  have key := fold_num k L H m (L + 9728 * H) (by omega) rfl (by omega) hlt hk
  refine ⟨?_, ⟨L + 9728 * H, by rw [hsum]; omega, key.1.trans hmod, key.2⟩, ?_, fun _ => hh⟩
  · intro i hi
    by_cases h22 : i < 22
    · rw [hl i h22]
      have a1 := hg.bd i (by omega)
      have a2 := hg.bd (i + 22) (by omega)
      omega
    · rw [hh i (by omega) hi]; omega
  · intro hk4 i hi
    -- the number is below 2 ^ 264: nothing is above
    rw [bnd_3 k (by omega)] at hlt
    have hH : H = 0 := by omega
    have hz : g (i + 22) = 0 := by
      have hu := sumf_uniq 4096 (fun j => g (j + 22)) 0 22 (fun i hi => hg.bd (i + 22) (by omega)) (by show sumf 4096 _ 22 = _; rw [eH, hH]) i hi
      rw [hu, dg, Nat.zero_div, Nat.zero_mod]
      rfl
    rw [hl i hi, hz]
    have := (hg.bd i (by omega)).2
    omega
/-- the bounds of the second loop -/
def bnd4 (k : Nat) : Nat := if k = 0 then 29642774844752946028434172162224104410437116074403984394101141506025761187823616 else if k = 1 then 57896044618658097711785492504343953926634992332820282019728792003956564829696 else 57896044618658097711785492504343953926634992332820282019728792003956564819968
theorem p21 : (4096 : Int) ^ 21 = 7237005577332262213973186563042994240829374041602535252466099000494570602496 := by decide +kernel
structure Inv4 (n k : Nat) (h : Nat → Int) : Prop where
  bd : ∀ i, i < 22 → 0 ≤ h i ∧ h i < 4096
  num : ∃ m : Nat, sumf 4096 h 22 = m ∧ m % PP = n % PP ∧ m < bnd4 k

theorem inv4_of (n : Nat) (h : Nat → Int) (h1 : Inv1 n 5 h) : Inv4 n 0 h := by
  obtain ⟨m, hm, hmod, hlt⟩ := h1.num
  refine ⟨fun i hi => ⟨(h1.bd i (by omega)).1, h1.norm (by omega) i hi⟩, m, ?_, hmod, by rw [bnd_3 _ (by omega)] at hlt; exact hlt⟩
  rw [show (44 : Nat) = 22 + 22 from rfl, sumf_split, sumf_zero 4096 (fun j => h (j + 22)) 22 (fun i hi => h1.high (by omega) (i + 22) (by omega) (by omega))] at hm
  simpa using hm

/-- the figures between the two halves of the round -/
def mid (h : Nat → Int) : Nat → Int := upd (upd h 21 (h 21 % 8)) 0 (h 0 + 19 * (h 21 / 8))
theorem mid_sum (h : Nat → Int) : sumf 4096 (mid h) 22 = sumf 4096 h 22 - (h 21 / 8) * (PP : Int) := by
  have e : (PP : Int) = 8 * 7237005577332262213973186563042994240829374041602535252466099000494570602496 - 19 := by decide +kernel
  unfold mid
  rw [sumf_upd _ _ _ _ _ (by omega), upd_ne _ _ _ _ (by omega), sumf_upd _ _ _ _ _ (by omega), p21, e]
  omega
theorem mid_bd (h : Nat → Int) (hb : ∀ i, i < 22 → 0 ≤ h i ∧ h i < 4096) : ∀ i, i < 22 → 0 ≤ mid h i ∧ mid h i ≤ 16384 := by
  intro i hi
  have h21 := hb 21 (by omega)
  have h0 := hb 0 (by omega)
  unfold mid
  by_cases e0 : i = 0
  · subst e0; rw [upd_same]; omega
  · rw [upd_ne _ _ _ _ e0]
    by_cases e1 : i = 21
    · subst e1; rw [upd_same]; omega
    · rw [upd_ne _ _ _ _ e1]; have := hb i hi; omega

theorem pass_sum (h : Nat → Int) (i : Nat) (hi : i < 21) : sumf 4096 (upd (upd h (i + 1) (h (i + 1) + h i / 4096)) i (h i % 4096)) 22 = sumf 4096 h 22 := by
  rw [sumf_upd _ _ _ _ _ (by omega), upd_ne _ _ _ _ (by omega), sumf_upd _ _ _ _ _ (by omega), Int.pow_succ]
  have e : h i % 4096 = h i - 4096 * (h i / 4096) := by omega
  rw [e]
  generalize h i / 4096 = q
  generalize (4096 : Int) ^ i = D
  generalize h i = x
  generalize h (i + 1) = y
  grind

theorem s4a (m q : Nat) (G x : Int) (hG : 0 ≤ G) (h : G + x * 7237005577332262213973186563042994240829374041602535252466099000494570602496 = m - q * 57896044618658097711785492504343953926634992332820282019728792003956564819949) (hm : m < 29642774844752946028434172162224104410437116074403984394101141506025761187823616) : x < 4096 := by omega
theorem s4b (m q : Nat) (A r : Int) (hA : 0 ≤ A) (hr : 0 ≤ r) (h : A + (8 * q + r) * 7237005577332262213973186563042994240829374041602535252466099000494570602496 = m) : q * 57896044618658097711785492504343953926634992332820282019728792003956564819949 ≤ m := by omega
theorem s4c (m q : Nat) (A r : Int) (hA : 0 ≤ A) (hA' : A < 7237005577332262213973186563042994240829374041602535252466099000494570602496) (hr : 0 ≤ r) (hr' : r < 8) (h : A + (8 * q + r) * 7237005577332262213973186563042994240829374041602535252466099000494570602496 = m) (hm : m < 29642774844752946028434172162224104410437116074403984394101141506025761187823616) : m - q * 57896044618658097711785492504343953926634992332820282019728792003956564819949 < 57896044618658097711785492504343953926634992332820282019728792003956564829696 := by omega
theorem s4d (m q : Nat) (A r : Int) (hA : 0 ≤ A) (hA' : A < 7237005577332262213973186563042994240829374041602535252466099000494570602496) (hr : 0 ≤ r) (hr' : r < 8) (h : A + (8 * q + r) * 7237005577332262213973186563042994240829374041602535252466099000494570602496 = m) (hm : m < 57896044618658097711785492504343953926634992332820282019728792003956564829696) : m - q * 57896044618658097711785492504343953926634992332820282019728792003956564819949 < 57896044618658097711785492504343953926634992332820282019728792003956564819968 := by omega
theorem s4e (m q : Nat) (h : q * 57896044618658097711785492504343953926634992332820282019728792003956564819949 ≤ m) : ((m - q * 57896044618658097711785492504343953926634992332820282019728792003956564819949 : Nat) : Int) = m - q * 57896044618658097711785492504343953926634992332820282019728792003956564819949 := by omega
theorem s4f (m q : Nat) (h : q * 57896044618658097711785492504343953926634992332820282019728792003956564819949 ≤ m) : m = (m - q * 57896044618658097711785492504343953926634992332820282019728792003956564819949) + 57896044618658097711785492504343953926634992332820282019728792003956564819949 * q := by omega

theorem inv4_step (n k : Nat) (h g : Nat → Int) (hk : k < 2) (h1 : Inv4 n k h) (hb : ∀ i, i < 21 → 0 ≤ g i ∧ g i < 4096) (h21 : 0 ≤ g 21) (hs : sumf 4096 g 22 = sumf 4096 (mid h) 22) : Inv4 n (k + 1) g := by
  obtain ⟨m, hm, hmod, hlt⟩ := h1.num
  have hb21 := h1.bd 21 (by omega)
  have hlow := sumf_lt 4096 (by decide) h 21 (fun i hi => (h1.bd i (by omega)).2)
  have hlow0 := sumf_nonneg 4096 (by decide) h 21 (fun i hi => (h1.bd i (by omega)).1)
  have hg0 := sumf_nonneg 4096 (by decide) g 21 (fun i hi => (hb i hi).1)
  rw [mid_sum, hm] at hs
  have e : (PP : Int) = 57896044618658097711785492504343953926634992332820282019728792003956564819949 := by decide +kernel
  have e' : PP = 57896044618658097711785492504343953926634992332820282019728792003956564819949 := rfl
  have hm' : sumf 4096 h 21 + h 21 * 4096 ^ 21 = m := hm
  have hs' : sumf 4096 g 21 + g 21 * 4096 ^ 21 = m - h 21 / 8 * (PP : Int) := hs
  obtain ⟨q, hq⟩ := Int.eq_ofNat_of_zero_le (show 0 ≤ h 21 / 8 by omega)
  have hdec : h 21 = 8 * q + h 21 % 8 := by omega
  have hr : 0 ≤ h 21 % 8 := by omega
  have hr' : h 21 % 8 < 8 := by omega
  generalize h 21 % 8 = r at *
  rw [p21] at hm' hs' hlow
  rw [hdec] at hm'
  rw [hq, e] at hs' hs
  have hle := s4b m q _ r hlow0 hr hm'
  refine ⟨?_, m - q * 57896044618658097711785492504343953926634992332820282019728792003956564819949, ?_, ?_, ?_⟩
  · intro i hi
    by_cases e1 : i = 21
    · subst e1
      refine ⟨h21, s4a m q _ _ hg0 hs' ?_⟩
      unfold bnd4 at hlt
      split at hlt
      · exact hlt
      · split at hlt <;> omega
    · exact hb i (by omega)
  · rw [hs, s4e m q hle]
  · have := s4f m q hle
    rw [← hmod]
    conv => rhs; rw [this, ← e']
    rw [Nat.add_mul_mod_self_left, e']
  · unfold bnd4 at hlt ⊢
    rcases (show k = 0 ∨ k = 1 by omega) with rfl | rfl
    · simp only [if_true, Nat.zero_add, Nat.one_ne_zero, if_false] at hlt ⊢
      exact s4c m q _ r hlow0 hlow hr hr' hm' hlt
    · simp only [if_true, Nat.one_ne_zero, if_false] at hlt ⊢
      rw [if_neg (by omega), if_neg (by omega)]
      exact s4d m q _ r hlow0 hlow hr hr' hm' hlt

theorem inv4_end (n : Nat) (h : Nat → Int) (h1 : Inv4 n 2 h) : ∃ m : Nat, row .i64 22 h = r22 m ∧ m % PP = n % PP ∧ m < 57896044618658097711785492504343953926634992332820282019728792003956564819968 := by
  obtain ⟨m, hm, hmod, hlt⟩ := h1.num
  exact ⟨m, row_ext _ _ _ _ (sumf_uniq 4096 h m 22 h1.bd hm), hmod, hlt⟩
end Go.Proofs.Ytjiagjonlcadiaa
