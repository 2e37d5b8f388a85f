/- Chapter 04: points are a group, without the document's answer. For all three keys the law returns true. -/
import Derived.Test.YtjiagjonlcadiaaProg
import Derived.WalkKit
import Derived.WalkSpells
import Derived.WalkLawsBesides
import Derived.Deep.QuietTactic
import Derived.BigQuiet
import Derived.Deep.RegionHeld3
import Derived.StillTailTactics
import Derived.Lib.Mul64
import Derived.Laws.Bits64b
import Derived.Laws.Externs
import Derived.Lib.Hide
import Derived.RowKit3
import Derived.LoopTactic
import Derived.Deep.LoopGhost
import Derived.Laws.Rows
import Derived.Laws.Tables
import Derived.Deep.MidRow
import Derived.OwnWalk
import Derived.Outline
import Derived.OrdersHeld
import Derived.BigRegion
import Derived.Laws.ShiftsVarLaws
import Derived.Laws.StructEq
import Derived.LoopN
import Derived.BigCall
section
namespace Go.Proofs.Ytjiagjonlcadiaa.Nm

/-- b to the e, modulo m, by squaring; f: bits enough. -/
def pm (m : Nat) : Nat → Nat → Nat → Nat
  | 0, _, _ => 1 % m
  | f + 1, b, e => if e % 2 = 1 then pm m f (b * b % m) (e / 2) * b % m else pm m f (b * b % m) (e / 2)

theorem pow_mod_base (b m e : Nat) : (b % m) ^ e % m = b ^ e % m := (Nat.pow_mod b e m).symm

theorem pm_eq (m f : Nat) : ∀ b e, e < 2 ^ f → pm m f b e = b ^ e % m := by
  induction f with
  | zero => intro b e h; have : e = 0 := by simpa using h
            subst this; simp [pm]
  | succ f ih =>
    intro b e h
    have h2 : e / 2 < 2 ^ f := by rw [Nat.pow_succ] at h; omega
    have e1 : (b * b % m) ^ (e / 2) % m = b ^ (2 * (e / 2)) % m := by
      rw [pow_mod_base, Nat.pow_mul, Nat.pow_two]
    unfold pm
    rw [ih _ _ h2, e1]
    split
    · rename_i ho
      have : e = 2 * (e / 2) + 1 := by omega
      conv => rhs; rw [this, Nat.pow_succ]
      rw [Nat.mod_mul_mod]
    · rename_i ho
      have : e = 2 * (e / 2) := by omega
      conv => rhs; rw [this]

/-- A prime, by Euclid's lemma. -/
def Pr (q : Nat) : Prop := 1 < q ∧ ∀ a b, q ∣ a * b → q ∣ a ∨ q ∣ b

theorem pr_of_divs {q : Nat} (h1 : 1 < q) (h : ∀ d, d ∣ q → d = 1 ∨ d = q) : Pr q := by
  refine ⟨h1, fun a b hab => ?_⟩
  rcases h (Nat.gcd q a) (Nat.gcd_dvd_left q a) with hg | hg
  · exact Or.inr (Nat.Coprime.dvd_of_dvd_mul_left hg hab)
  · exact Or.inl (hg ▸ Nat.gcd_dvd_right q a)

theorem Pr.divs {q : Nat} (h : Pr q) {d : Nat} (hd : d ∣ q) : d = 1 ∨ d = q := by
  obtain ⟨h1, h⟩ := h
  obtain ⟨e, he⟩ := hd
  have h0 : q ∣ d * e := he ▸ Nat.dvd_refl q
  rcases h d e h0 with hh | hh
  · right; exact Nat.dvd_antisymm ⟨e, he⟩ hh
  · left
    have : e = q := Nat.dvd_antisymm ⟨d, by rw [he, Nat.mul_comm]⟩ hh
    subst this
    have : d * e = 1 * e := by omega
    exact Nat.eq_of_mul_eq_mul_right (by omega) this

/-- No divisor among d, d + 1, .. (so many). -/
def noDiv (n : Nat) : Nat → Nat → Bool
  | 0, _ => true
  | f + 1, d => n % d != 0 && noDiv n f (d + 1)

theorem noDiv_spec (n : Nat) : ∀ f d, noDiv n f d = true → ∀ k, d ≤ k → k < d + f → ¬ k ∣ n := by
  intro f
  induction f with
  | zero => intro d _ k h1 h2; omega
  | succ f ih =>
    intro d h k h1 h2
    simp only [noDiv, Bool.and_eq_true, bne_iff_ne] at h
    by_cases hk : k = d
    · subst hk; intro hd; exact h.1 (Nat.mod_eq_zero_of_dvd hd)
    · exact ih (d + 1) h.2 k (by omega) (by omega)

theorem pr_trial {n f : Nat} (h1 : 1 < n) (hf : n < (f + 2) * (f + 2)) (h : noDiv n f 2 = true) : Pr n := by
  have key := noDiv_spec n f 2 h
  refine pr_of_divs h1 fun d hd => ?_
  obtain ⟨e, he⟩ := hd
  have he0 : 0 < e := by
    rcases Nat.eq_zero_or_pos e with h0 | h0
    · subst h0; omega
    · exact h0
  have hd0 : 0 < d := by
    rcases Nat.eq_zero_or_pos d with h0 | h0
    · subst h0; omega
    · exact h0
  by_cases hd1 : d = 1
  · exact Or.inl hd1
  by_cases he1 : e = 1
  · right; subst he1; omega
  exfalso
  by_cases hdl : d < f + 2
  · exact key d (by omega) (by omega) ⟨e, he⟩
  · by_cases hel : e < f + 2
    · exact key e (by omega) (by omega) ⟨d, by rw [he, Nat.mul_comm]⟩
    · have : (f + 2) * (f + 2) ≤ d * e := Nat.mul_le_mul (by omega) (by omega)
      omega

def prod : List Nat → Nat
  | [] => 1
  | q :: l => q * prod l

theorem exists_factor (l : List Nat) (hl : ∀ q ∈ l, Pr q) (k : Nat) (hk : k ∣ prod l) (h1 : k ≠ 1) : ∃ q ∈ l, q ∣ k := by
  induction l generalizing k with
  | nil => exact absurd (Nat.dvd_one.1 hk) h1
  | cons q l ih =>
    rcases (hl q (by simp)).divs (Nat.gcd_dvd_right k q) with hg | hg
    · have : k ∣ prod l := Nat.Coprime.dvd_of_dvd_mul_left hg hk
      obtain ⟨r, hr, hrk⟩ := ih (fun r hr => hl r (by simp [hr])) k this h1
      exact ⟨r, by simp [hr], hrk⟩
    · exact ⟨q, by simp, hg ▸ Nat.gcd_dvd_left k q⟩

theorem least_of (p : Nat → Prop) (n : Nat) (hn : p n) : ∃ m, p m ∧ ∀ k, k < m → ¬ p k := by
  induction n using Nat.strongRecOn with
  | _ n ih =>
    by_cases h : ∃ k, k < n ∧ p k
    · obtain ⟨k, hk, hpk⟩ := h
      exact ih k hk hpk
    · exact ⟨n, hn, fun k hk hp => h ⟨k, hk, hp⟩⟩

theorem pigeon (N : Nat) : ∀ f : Nat → Nat, (∀ i, i < N → f i < N) → (∀ i j, i < N → j < N → f i = f j → i = j) → ∀ y, y < N → ∃ i, i < N ∧ f i = y := by
  induction N with
  | zero => intro f _ _ y hy; omega
  | succ N ih =>
    intro f hr hi y hy
    have hr' : ∀ i, i < N → (if f i = N then f N else f i) < N := by
      intro i hiN
      split
      · rename_i h
        have h1 := hr N (by omega)
        have h2 : f N ≠ N := fun h3 => by have := hi i N (by omega) (by omega) (by omega); omega
        omega
      · have := hr i (by omega); omega
    have hi' : ∀ i j, i < N → j < N → (if f i = N then f N else f i) = (if f j = N then f N else f j) → i = j := by
      intro i j h1 h2 h
      split at h <;> split at h
      · exact hi i j (by omega) (by omega) (by omega)
      · have := hi N j (by omega) (by omega) h; omega
      · have := hi i N (by omega) (by omega) h; omega
      · exact hi i j (by omega) (by omega) h
    have H := ih (fun i => if f i = N then f N else f i) hr' hi'
    by_cases hv : y = f N
    · exact ⟨N, by omega, hv.symm⟩
    by_cases hyN : y = N
    · subst hyN
      have hfN : f y < y := by have := hr y (by omega); omega
      obtain ⟨i, hiN, he⟩ := H (f y) hfN
      split at he
      · exact ⟨i, by omega, by assumption⟩
      · have := hi i y (by omega) (by omega) he; omega
    · obtain ⟨i, hiN, he⟩ := H y (by omega)
      split at he
      · exact absurd he.symm hv
      · exact ⟨i, by omega, he⟩

theorem mod_one_of {n x y : Nat} (h : x % n = 1) (h' : (x * y) % n = 1) : y % n = 1 := by
  have : (x % n * y) % n = 1 := by rw [Nat.mod_mul_mod]; exact h'
  rw [h, Nat.one_mul] at this
  exact this

/-- What Lucas's test gives: the powers of g are all that there is. -/
structure Gen (n g : Nat) : Prop where
  one : 1 < n
  flt : g ^ (n - 1) % n = 1
  all : ∀ a, 0 < a → a < n → ∃ i, i < n - 1 ∧ g ^ i % n = a

theorem lucas {n g : Nat} (l : List Nat) (h1 : 1 < n) (hl : ∀ q ∈ l, Pr q) (hp : prod l = n - 1) (hg : g ^ (n - 1) % n = 1)
    (hq : ∀ q ∈ l, g ^ ((n - 1) / q) % n ≠ 1) : Gen n g := by
  -- the order
  obtain ⟨m, ⟨hm0, hm1⟩, hmin⟩ := least_of (fun m => 0 < m ∧ g ^ m % n = 1) (n - 1) ⟨by omega, hg⟩
  have hpowmul : ∀ k, g ^ (m * k) % n = 1 := by
    intro k
    rw [Nat.pow_mul, Nat.pow_mod, hm1, Nat.one_pow, Nat.mod_eq_of_lt h1]
  have hdiv : ∀ k, g ^ k % n = 1 → m ∣ k := by
    intro k hk
    have e1 : g ^ k = g ^ (m * (k / m)) * g ^ (k % m) := by rw [← Nat.pow_add, Nat.div_add_mod]
    have e2 : g ^ (k % m) % n = 1 := mod_one_of (hpowmul (k / m)) (by rw [← e1]; exact hk)
    have hlt := Nat.mod_lt k hm0
    by_cases hz : k % m = 0
    · exact Nat.dvd_of_mod_eq_zero hz
    · exact absurd ⟨by omega, e2⟩ (hmin _ hlt)
  have hmn : m = n - 1 := by
    obtain ⟨k, hk⟩ := hdiv _ hg
    by_cases hk1 : k = 1
    · subst hk1; omega
    obtain ⟨q, hql, c, hc⟩ := exists_factor l hl k ⟨m, by rw [hp, hk, Nat.mul_comm]⟩ hk1
    exfalso
    have hq1 := (hl q hql).1
    have : (n - 1) / q = m * c := by
      rw [hk, hc, show m * (q * c) = q * (m * c) by ac_rfl]
      exact Nat.mul_div_cancel_left _ (by omega)
    exact hq q hql (by rw [this]; exact hpowmul c)
  subst hmn
  have hinv : ∀ i, i ≤ n - 1 → (g ^ i * g ^ (n - 1 - i)) % n = 1 := by
    intro i hi
    rw [← Nat.pow_add, show i + (n - 1 - i) = n - 1 by omega]; exact hg
  have hnz : ∀ i, i < n - 1 → 0 < g ^ i % n := by
    intro i hi
    rcases Nat.eq_zero_or_pos (g ^ i % n) with h0 | h0
    · have := hinv i (by omega)
      rw [← Nat.mod_mul_mod, h0, Nat.zero_mul, Nat.zero_mod] at this
      omega
    · exact h0
  have hinj : ∀ i j, i < j → j < n - 1 → g ^ i % n = g ^ j % n → False := by
    intro i j hij hj he
    have h2 : (g ^ j * g ^ (n - 1 - i)) % n = 1 := by
      rw [← Nat.mod_mul_mod, ← he, Nat.mod_mul_mod]; exact hinv i (by omega)
    have e1 : g ^ j * g ^ (n - 1 - i) = g ^ (n - 1) * g ^ (j - i) := by
      rw [← Nat.pow_add, ← Nat.pow_add]; congr 1; omega
    rw [e1] at h2
    exact hmin (j - i) (by omega) ⟨by omega, mod_one_of hg h2⟩
  refine ⟨h1, hg, fun a ha0 han => ?_⟩
  obtain ⟨i, hi, he⟩ := pigeon (n - 1) (fun i => g ^ i % n - 1) (fun i hi => by
      have := hnz i hi; have := Nat.mod_lt (g ^ i) (show 0 < n by omega); omega) (fun i j hi hj h => by
      have h1 := hnz i hi
      have h2 := hnz j hj
      have h3 : g ^ i % n = g ^ j % n := by omega
      rcases Nat.lt_trichotomy i j with hh | hh | hh
      · exact (hinj i j hh hj h3).elim
      · exact hh
      · exact (hinj j i hh hi h3.symm).elim) (a - 1) (by omega)
  exact ⟨i, hi, by have := hnz i hi; omega⟩

theorem Gen.pr {n g : Nat} (h : Gen n g) : Pr n := by
  obtain ⟨h1, hg, hall⟩ := h
  refine ⟨h1, fun a b hab => ?_⟩
  by_cases ha : a % n = 0
  · exact Or.inl (Nat.dvd_of_mod_eq_zero ha)
  right
  obtain ⟨i, hi, he⟩ := hall (a % n) (by omega) (Nat.mod_lt _ (by omega))
  have hb : (g ^ (n - 1 - i) * a) % n = 1 := by
    rw [Nat.mul_comm, ← Nat.mod_mul_mod, ← he, Nat.mod_mul_mod, ← Nat.pow_add, show i + (n - 1 - i) = n - 1 by omega]; exact hg
  have h2 : (g ^ (n - 1 - i) * a * b) % n = 0 := by
    rw [Nat.mul_assoc]; exact Nat.mod_eq_zero_of_dvd (Nat.dvd_trans hab ⟨g ^ (n - 1 - i), by ac_rfl⟩)
  rw [← Nat.mod_mul_mod, hb, Nat.one_mul] at h2
  exact Nat.dvd_of_mod_eq_zero h2

/-- The little theorem. -/
theorem Gen.little {n g : Nat} (h : Gen n g) (a : Nat) (ha : a % n ≠ 0) : a ^ (n - 1) % n = 1 := by
  obtain ⟨h1, hg, hall⟩ := h
  obtain ⟨i, _, he⟩ := hall (a % n) (by omega) (Nat.mod_lt _ (by omega))
  rw [← pow_mod_base, ← he, pow_mod_base, ← Nat.pow_mul, Nat.mul_comm, Nat.pow_mul, ← pow_mod_base, hg, Nat.one_pow, Nat.mod_eq_of_lt h1]

theorem lucas_pm {n g : Nat} (l : List Nat) (h1 : 1 < n) (hn : n < 2 ^ 256) (hl : ∀ q ∈ l, Pr q) (hp : prod l = n - 1) (hg : pm n 256 g (n - 1) = 1)
    (hq : l.all (fun q => pm n 256 g ((n - 1) / q) != 1) = true) : Gen n g := by
  refine lucas l h1 hl hp (by rw [← pm_eq n 256 g (n - 1) (by omega)]; exact hg) fun q hql => ?_
  have := List.all_eq_true.1 hq q hql
  have hlt : (n - 1) / q < 2 ^ 256 := Nat.lt_of_le_of_lt (Nat.div_le_self _ _) (by omega)
  rw [pm_eq n 256 g _ hlt] at this
  simpa using this

theorem pr_2 : Pr 2 := pr_trial (f := 0) (by decide) (by decide) (by decide +kernel)
theorem pr_3 : Pr 3 := pr_trial (f := 0) (by decide) (by decide) (by decide +kernel)
theorem pr_65147 : Pr 65147 := pr_trial (f := 254) (by decide) (by decide) (by decide +kernel)
theorem pr_353 : Pr 353 := pr_trial (f := 17) (by decide) (by decide) (by decide +kernel)
theorem pr_57467 : Pr 57467 := pr_trial (f := 238) (by decide) (by decide) (by decide +kernel)
theorem pr_132049 : Pr 132049 := pr_trial (f := 362) (by decide) (by decide) (by decide +kernel)
theorem pr_1923133 : Pr 1923133 := pr_trial (f := 1385) (by decide) (by decide) (by decide +kernel)
theorem pr_31 : Pr 31 := pr_trial (f := 4) (by decide) (by decide) (by decide +kernel)
theorem pr_107 : Pr 107 := pr_trial (f := 9) (by decide) (by decide) (by decide +kernel)
theorem pr_223 : Pr 223 := pr_trial (f := 13) (by decide) (by decide) (by decide +kernel)
theorem pr_4153 : Pr 4153 := pr_trial (f := 63) (by decide) (by decide) (by decide +kernel)
theorem pr_430751 : Pr 430751 := pr_trial (f := 655) (by decide) (by decide) (by decide +kernel)
theorem gen_31757755568855353 : Gen 31757755568855353 10 := by
  refine lucas_pm [2, 2, 2, 3, 31, 107, 223, 4153, 430751] (by decide) (by decide) ?_ (by decide +kernel) (by decide +kernel) (by decide +kernel)
  intro q hq
  simp only [List.mem_cons, List.not_mem_nil, or_false] at hq
  rcases hq with rfl | rfl | rfl | rfl | rfl | rfl | rfl | rfl | rfl
  · exact pr_2
  · exact pr_2
  · exact pr_2
  · exact pr_3
  · exact pr_31
  · exact pr_107
  · exact pr_223
  · exact pr_4153
  · exact pr_430751
theorem pr_31757755568855353 : Pr 31757755568855353 := gen_31757755568855353.pr
theorem pr_5 : Pr 5 := pr_trial (f := 1) (by decide) (by decide) (by decide +kernel)
theorem pr_75707 : Pr 75707 := pr_trial (f := 274) (by decide) (by decide) (by decide +kernel)
theorem pr_13 : Pr 13 := pr_trial (f := 2) (by decide) (by decide) (by decide +kernel)
theorem pr_2437 : Pr 2437 := pr_trial (f := 48) (by decide) (by decide) (by decide +kernel)
theorem pr_569003 : Pr 569003 := pr_trial (f := 753) (by decide) (by decide) (by decide +kernel)
theorem gen_2773320623 : Gen 2773320623 5 := by
  refine lucas_pm [2, 2437, 569003] (by decide) (by decide) ?_ (by decide +kernel) (by decide +kernel) (by decide +kernel)
  intro q hq
  simp only [List.mem_cons, List.not_mem_nil, or_false] at hq
  rcases hq with rfl | rfl | rfl
  · exact pr_2
  · exact pr_2437
  · exact pr_569003
theorem pr_2773320623 : Pr 2773320623 := gen_2773320623.pr
theorem gen_72106336199 : Gen 72106336199 7 := by
  refine lucas_pm [2, 13, 2773320623] (by decide) (by decide) ?_ (by decide +kernel) (by decide +kernel) (by decide +kernel)
  intro q hq
  simp only [List.mem_cons, List.not_mem_nil, or_false] at hq
  rcases hq with rfl | rfl | rfl
  · exact pr_2
  · exact pr_13
  · exact pr_2773320623
theorem pr_72106336199 : Pr 72106336199 := gen_72106336199.pr
theorem pr_7 : Pr 7 := pr_trial (f := 1) (by decide) (by decide) (by decide +kernel)
theorem pr_19 : Pr 19 := pr_trial (f := 3) (by decide) (by decide) (by decide +kernel)
theorem pr_47 : Pr 47 := pr_trial (f := 5) (by decide) (by decide) (by decide +kernel)
theorem pr_127 : Pr 127 := pr_trial (f := 10) (by decide) (by decide) (by decide +kernel)
theorem pr_103 : Pr 103 := pr_trial (f := 9) (by decide) (by decide) (by decide +kernel)
theorem pr_991 : Pr 991 := pr_trial (f := 30) (by decide) (by decide) (by decide +kernel)
theorem gen_8574133 : Gen 8574133 2 := by
  refine lucas_pm [2, 2, 3, 7, 103, 991] (by decide) (by decide) ?_ (by decide +kernel) (by decide +kernel) (by decide +kernel)
  intro q hq
  simp only [List.mem_cons, List.not_mem_nil, or_false] at hq
  rcases hq with rfl | rfl | rfl | rfl | rfl | rfl
  · exact pr_2
  · exact pr_2
  · exact pr_3
  · exact pr_7
  · exact pr_103
  · exact pr_991
theorem pr_8574133 : Pr 8574133 := gen_8574133.pr
theorem gen_1919519569386763 : Gen 1919519569386763 2 := by
  refine lucas_pm [2, 3, 7, 19, 47, 47, 127, 8574133] (by decide) (by decide) ?_ (by decide +kernel) (by decide +kernel) (by decide +kernel)
  intro q hq
  simp only [List.mem_cons, List.not_mem_nil, or_false] at hq
  rcases hq with rfl | rfl | rfl | rfl | rfl | rfl | rfl | rfl
  · exact pr_2
  · exact pr_3
  · exact pr_7
  · exact pr_19
  · exact pr_47
  · exact pr_47
  · exact pr_127
  · exact pr_8574133
theorem pr_1919519569386763 : Pr 1919519569386763 := gen_1919519569386763.pr
theorem gen_75445702479781427272750846543864801 : Gen 75445702479781427272750846543864801 7 := by
  refine lucas_pm [2, 2, 2, 2, 2, 3, 3, 5, 5, 75707, 72106336199, 1919519569386763] (by decide) (by decide) ?_ (by decide +kernel) (by decide +kernel) (by decide +kernel)
  intro q hq
  simp only [List.mem_cons, List.not_mem_nil, or_false] at hq
  rcases hq with rfl | rfl | rfl | rfl | rfl | rfl | rfl | rfl | rfl | rfl | rfl | rfl
  · exact pr_2
  · exact pr_2
  · exact pr_2
  · exact pr_2
  · exact pr_2
  · exact pr_3
  · exact pr_3
  · exact pr_5
  · exact pr_5
  · exact pr_75707
  · exact pr_72106336199
  · exact pr_1919519569386763
theorem pr_75445702479781427272750846543864801 : Pr 75445702479781427272750846543864801 := gen_75445702479781427272750846543864801.pr
theorem gen_74058212732561358302231226437062788676166966415465897661863160754340907 : Gen 74058212732561358302231226437062788676166966415465897661863160754340907 2 := by
  refine lucas_pm [2, 3, 353, 57467, 132049, 1923133, 31757755568855353, 75445702479781427272750846543864801] (by decide) (by decide) ?_ (by decide +kernel) (by decide +kernel) (by decide +kernel)
  intro q hq
  simp only [List.mem_cons, List.not_mem_nil, or_false] at hq
  rcases hq with rfl | rfl | rfl | rfl | rfl | rfl | rfl | rfl
  · exact pr_2
  · exact pr_3
  · exact pr_353
  · exact pr_57467
  · exact pr_132049
  · exact pr_1923133
  · exact pr_31757755568855353
  · exact pr_75445702479781427272750846543864801
theorem pr_74058212732561358302231226437062788676166966415465897661863160754340907 : Pr 74058212732561358302231226437062788676166966415465897661863160754340907 := gen_74058212732561358302231226437062788676166966415465897661863160754340907.pr
theorem gen_P : Gen 57896044618658097711785492504343953926634992332820282019728792003956564819949 2 := by
  refine lucas_pm [2, 2, 3, 65147, 74058212732561358302231226437062788676166966415465897661863160754340907] (by decide) (by decide) ?_ (by decide +kernel) (by decide +kernel) (by decide +kernel)
  intro q hq
  simp only [List.mem_cons, List.not_mem_nil, or_false] at hq
  rcases hq with rfl | rfl | rfl | rfl | rfl
  · exact pr_2
  · exact pr_2
  · exact pr_3
  · exact pr_65147
  · exact pr_74058212732561358302231226437062788676166966415465897661863160754340907
theorem pr_P : Pr 57896044618658097711785492504343953926634992332820282019728792003956564819949 := gen_P.pr
end Go.Proofs.Ytjiagjonlcadiaa.Nm
end
section
namespace Go.Proofs.Ytjiagjonlcadiaa

/-- what is asked of the field -/
structure Fld (n : Nat) [NeZero n] (d : Fin n) (i : Fin n) (inv : Fin n → Fin n) : Prop where
  dom : ∀ a b : Fin n, a * b = 0 → a = 0 ∨ b = 0
  one : (1 : Fin n) ≠ 0
  two : (1 : Fin n) + 1 ≠ 0
  root : i * i = -1
  non : ∀ s t : Fin n, s * s = d * (t * t) → t = 0
  inv : ∀ a : Fin n, a ≠ 0 → a * inv a = 1

variable {n : Nat} [NeZero n] {d i : Fin n} {inv : Fin n → Fin n}
/-- a point of the curve -/
def On (d x y : Fin n) : Prop := y * y - x * x = 1 + d * x * x * y * y

theorem Fld.eps (F : Fld n d i inv) (x1 y1 x2 y2 e : Fin n) (h1 : On d x1 y1) (h2 : On d x2 y2) (he : e = d * x1 * x2 * y1 * y2) : e * e ≠ 1 := by
  intro hee
  unfold On at h1 h2
  have hr := F.root
  have hp : (i * x1 + e * y1) * (i * x1 + e * y1) = d * ((x1 * y1 * (i * x2 + y2)) * (x1 * y1 * (i * x2 + y2))) := by grind
  have hm : (i * x1 - e * y1) * (i * x1 - e * y1) = d * ((x1 * y1 * (i * x2 - y2)) * (x1 * y1 * (i * x2 - y2))) := by grind
  have tp := F.non _ _ hp
  have tm := F.non _ _ hm
  have hy : (1 + 1) * (x1 * y1 * y2) = 0 := by grind
  have hz : x1 * y1 * y2 = 0 := (F.dom _ _ hy).resolve_left F.two
  have h0 : e = 0 := by grind
  apply F.one
  grind
theorem Fld.plus_ne (F : Fld n d i inv) (x1 y1 x2 y2 : Fin n) (h1 : On d x1 y1) (h2 : On d x2 y2) : 1 + d * x1 * x2 * y1 * y2 ≠ 0 := by
  intro h
  refine F.eps x1 y1 x2 y2 _ h1 h2 rfl ?_
  grind
theorem Fld.minus_ne (F : Fld n d i inv) (x1 y1 x2 y2 : Fin n) (h1 : On d x1 y1) (h2 : On d x2 y2) : 1 - d * x1 * x2 * y1 * y2 ≠ 0 := by
  intro h
  refine F.eps x1 y1 x2 y2 _ h1 h2 rfl ?_
  grind
/-- the sum's coordinates -/
def sx (inv : Fin n → Fin n) (d x1 y1 x2 y2 : Fin n) : Fin n := (x1 * y2 + x2 * y1) * inv (1 + d * x1 * x2 * y1 * y2)
def sy (inv : Fin n → Fin n) (d x1 y1 x2 y2 : Fin n) : Fin n := (y1 * y2 + x1 * x2) * inv (1 - d * x1 * x2 * y1 * y2)
theorem Fld.cancel (F : Fld n d i inv) (a b c : Fin n) (hc : c ≠ 0) (h : a * c = b * c) : a = b := by
  have h0 : (a - b) * c = 0 := by grind
  have := (F.dom _ _ h0).resolve_right hc
  grind
theorem Fld.sx_eq (F : Fld n d i inv) (x1 y1 x2 y2 : Fin n) (h1 : On d x1 y1) (h2 : On d x2 y2) : sx inv d x1 y1 x2 y2 * (1 + d * x1 * x2 * y1 * y2) = x1 * y2 + x2 * y1 := by
  have := F.inv _ (F.plus_ne x1 y1 x2 y2 h1 h2)
  unfold sx; grind
theorem Fld.sy_eq (F : Fld n d i inv) (x1 y1 x2 y2 : Fin n) (h1 : On d x1 y1) (h2 : On d x2 y2) : sy inv d x1 y1 x2 y2 * (1 - d * x1 * x2 * y1 * y2) = y1 * y2 + x1 * x2 := by
  have := F.inv _ (F.minus_ne x1 y1 x2 y2 h1 h2)
  unfold sy; grind
theorem on_poly (x1 y1 x2 y2 : Fin n) (h1 : On d x1 y1) (h2 : On d x2 y2) :
    (y1 * y2 + x1 * x2) * (y1 * y2 + x1 * x2) * ((1 + d * x1 * x2 * y1 * y2) * (1 + d * x1 * x2 * y1 * y2)) - (x1 * y2 + x2 * y1) * (x1 * y2 + x2 * y1) * ((1 - d * x1 * x2 * y1 * y2) * (1 - d * x1 * x2 * y1 * y2))
      = (1 + d * x1 * x2 * y1 * y2) * (1 + d * x1 * x2 * y1 * y2) * ((1 - d * x1 * x2 * y1 * y2) * (1 - d * x1 * x2 * y1 * y2)) + d * ((x1 * y2 + x2 * y1) * (x1 * y2 + x2 * y1)) * ((y1 * y2 + x1 * x2) * (y1 * y2 + x1 * x2)) := by
  unfold On at h1 h2
  grind
theorem Fld.on_sum (F : Fld n d i inv) (x1 y1 x2 y2 : Fin n) (h1 : On d x1 y1) (h2 : On d x2 y2) : On d (sx inv d x1 y1 x2 y2) (sy inv d x1 y1 x2 y2) := by
  have hp := F.plus_ne x1 y1 x2 y2 h1 h2
  have hm := F.minus_ne x1 y1 x2 y2 h1 h2
  have ex := F.sx_eq x1 y1 x2 y2 h1 h2
  have ey := F.sy_eq x1 y1 x2 y2 h1 h2
  have hq := on_poly x1 y1 x2 y2 h1 h2
  generalize sx inv d x1 y1 x2 y2 = X at *
  generalize sy inv d x1 y1 x2 y2 = Y at *
  generalize 1 + d * x1 * x2 * y1 * y2 = P at *
  generalize 1 - d * x1 * x2 * y1 * y2 = M at *
  rw [← ex, ← ey] at hq
  have hpm : P * P * (M * M) ≠ 0 := by
    intro h
    rcases F.dom _ _ h with h | h <;> rcases F.dom _ _ h with h | h <;> contradiction
  unfold On
  refine F.cancel _ _ (P * P * (M * M)) hpm ?_
  grind
theorem x_poly (x1 y1 x2 y2 x3 y3 : Fin n) (h1 : On d x1 y1) (h2 : On d x2 y2) (h3 : On d x3 y3) :
  ((x1*y2+x2*y1)*(1-d*x1*x2*y1*y2)*y3 + x3*((y1*y2+x1*x2)*(1+d*x1*x2*y1*y2))) * ((1+d*x2*x3*y2*y3)*(1-d*x2*x3*y2*y3) + d*x1*y1*((x2*y3+x3*y2)*(y2*y3+x2*x3)))
  = (x1*((y2*y3+x2*x3)*(1+d*x2*x3*y2*y3)) + (x2*y3+x3*y2)*(1-d*x2*x3*y2*y3)*y1) * ((1+d*x1*x2*y1*y2)*(1-d*x1*x2*y1*y2) + d*x3*y3*((x1*y2+x2*y1)*(y1*y2+x1*x2))) := by
  unfold On at h1 h2 h3
  grind
theorem y_poly (x1 y1 x2 y2 x3 y3 : Fin n) (h1 : On d x1 y1) (h2 : On d x2 y2) (h3 : On d x3 y3) :
  ((y1*y2+x1*x2)*(1+d*x1*x2*y1*y2)*y3 + x3*((x1*y2+x2*y1)*(1-d*x1*x2*y1*y2))) * ((1+d*x2*x3*y2*y3)*(1-d*x2*x3*y2*y3) - d*x1*y1*((x2*y3+x3*y2)*(y2*y3+x2*x3)))
  = (y1*((y2*y3+x2*x3)*(1+d*x2*x3*y2*y3)) + (x2*y3+x3*y2)*(1-d*x2*x3*y2*y3)*x1) * ((1+d*x1*x2*y1*y2)*(1-d*x1*x2*y1*y2) - d*x3*y3*((x1*y2+x2*y1)*(y1*y2+x1*x2))) := by
  unfold On at h1 h2 h3
  grind
theorem frac_xl (x12 y12 x3 y3 P M Nx Ny X : Fin n) (hx : x12 * P = Nx) (hy : y12 * M = Ny) (h : X * (1 + d * x12 * x3 * y12 * y3) = x12 * y3 + x3 * y12) : X * (P * M + d * x3 * y3 * (Nx * Ny)) = Nx * M * y3 + x3 * (Ny * P) := by
  grind
theorem frac_xr (x23 y23 x1 y1 P M Nx Ny X : Fin n) (hx : x23 * P = Nx) (hy : y23 * M = Ny) (h : X * (1 + d * x1 * x23 * y1 * y23) = x1 * y23 + x23 * y1) : X * (P * M + d * x1 * y1 * (Nx * Ny)) = x1 * (Ny * P) + Nx * M * y1 := by
  grind
theorem frac_yl (x12 y12 x3 y3 P M Nx Ny Y : Fin n) (hx : x12 * P = Nx) (hy : y12 * M = Ny) (h : Y * (1 - d * x12 * x3 * y12 * y3) = y12 * y3 + x12 * x3) : Y * (P * M - d * x3 * y3 * (Nx * Ny)) = Ny * P * y3 + x3 * (Nx * M) := by
  grind
theorem frac_yr (x23 y23 x1 y1 P M Nx Ny Y : Fin n) (hx : x23 * P = Nx) (hy : y23 * M = Ny) (h : Y * (1 - d * x1 * x23 * y1 * y23) = y1 * y23 + x1 * x23) : Y * (P * M - d * x1 * y1 * (Nx * Ny)) = y1 * (Ny * P) + Nx * M * x1 := by
  grind
theorem den_pl (x12 y12 x3 y3 P M Nx Ny : Fin n) (hx : x12 * P = Nx) (hy : y12 * M = Ny) : P * M + d * x3 * y3 * (Nx * Ny) = P * M * (1 + d * x12 * x3 * y12 * y3) := by grind
theorem den_ml (x12 y12 x3 y3 P M Nx Ny : Fin n) (hx : x12 * P = Nx) (hy : y12 * M = Ny) : P * M - d * x3 * y3 * (Nx * Ny) = P * M * (1 - d * x12 * x3 * y12 * y3) := by grind
theorem den_pr (x23 y23 x1 y1 P M Nx Ny : Fin n) (hx : x23 * P = Nx) (hy : y23 * M = Ny) : P * M + d * x1 * y1 * (Nx * Ny) = P * M * (1 + d * x1 * x23 * y1 * y23) := by grind
theorem den_mr (x23 y23 x1 y1 P M Nx Ny : Fin n) (hx : x23 * P = Nx) (hy : y23 * M = Ny) : P * M - d * x1 * y1 * (Nx * Ny) = P * M * (1 - d * x1 * x23 * y1 * y23) := by grind
theorem Fld.mul_ne (F : Fld n d i inv) {a b : Fin n} (ha : a ≠ 0) (hb : b ≠ 0) : a * b ≠ 0 := fun h => (F.dom _ _ h).elim ha hb
theorem Fld.cross (F : Fld n d i inv) (X X' DL DR NL NR : Fin n) (hl : X * DL = NL) (hr : X' * DR = NR) (h : NL * DR = NR * DL) (h1 : DL ≠ 0) (h2 : DR ≠ 0) : X = X' := by
  refine F.cancel _ _ (DL * DR) (F.mul_ne h1 h2) ?_
  grind

theorem Fld.assoc_x (F : Fld n d i inv) (x1 y1 x2 y2 x3 y3 : Fin n) (h1 : On d x1 y1) (h2 : On d x2 y2) (h3 : On d x3 y3) :
    sx inv d (sx inv d x1 y1 x2 y2) (sy inv d x1 y1 x2 y2) x3 y3 = sx inv d x1 y1 (sx inv d x2 y2 x3 y3) (sy inv d x2 y2 x3 y3) := by
  have o12 := F.on_sum x1 y1 x2 y2 h1 h2
  have o23 := F.on_sum x2 y2 x3 y3 h2 h3
  have el := F.sx_eq _ _ x3 y3 o12 h3
  have er := F.sx_eq x1 y1 _ _ h1 o23
  have dl := F.plus_ne _ _ x3 y3 o12 h3
  have dr := F.plus_ne x1 y1 _ _ h1 o23
  have ax := F.sx_eq x1 y1 x2 y2 h1 h2
  have ay := F.sy_eq x1 y1 x2 y2 h1 h2
  have bx := F.sx_eq x2 y2 x3 y3 h2 h3
  have by' := F.sy_eq x2 y2 x3 y3 h2 h3
  have p12 := F.plus_ne x1 y1 x2 y2 h1 h2
  have m12 := F.minus_ne x1 y1 x2 y2 h1 h2
  have p23 := F.plus_ne x2 y2 x3 y3 h2 h3
  have m23 := F.minus_ne x2 y2 x3 y3 h2 h3
  have hq := x_poly x1 y1 x2 y2 x3 y3 h1 h2 h3
  refine F.cross _ _ _ _ _ _ (frac_xl _ _ x3 y3 _ _ _ _ _ ax ay el) (frac_xr _ _ x1 y1 _ _ _ _ _ bx by' er) hq ?_ ?_
  · rw [den_pl _ _ x3 y3 _ _ _ _ ax ay]; exact F.mul_ne (F.mul_ne p12 m12) dl
  · rw [den_pr _ _ x1 y1 _ _ _ _ bx by']; exact F.mul_ne (F.mul_ne p23 m23) dr
theorem Fld.assoc_y (F : Fld n d i inv) (x1 y1 x2 y2 x3 y3 : Fin n) (h1 : On d x1 y1) (h2 : On d x2 y2) (h3 : On d x3 y3) :
    sy inv d (sx inv d x1 y1 x2 y2) (sy inv d x1 y1 x2 y2) x3 y3 = sy inv d x1 y1 (sx inv d x2 y2 x3 y3) (sy inv d x2 y2 x3 y3) := by
  have o12 := F.on_sum x1 y1 x2 y2 h1 h2
  have o23 := F.on_sum x2 y2 x3 y3 h2 h3
  have el := F.sy_eq _ _ x3 y3 o12 h3
  have er := F.sy_eq x1 y1 _ _ h1 o23
  have dl := F.minus_ne _ _ x3 y3 o12 h3
  have dr := F.minus_ne x1 y1 _ _ h1 o23
  have ax := F.sx_eq x1 y1 x2 y2 h1 h2
  have ay := F.sy_eq x1 y1 x2 y2 h1 h2
  have bx := F.sx_eq x2 y2 x3 y3 h2 h3
  have by' := F.sy_eq x2 y2 x3 y3 h2 h3
  have p12 := F.plus_ne x1 y1 x2 y2 h1 h2
  have m12 := F.minus_ne x1 y1 x2 y2 h1 h2
  have p23 := F.plus_ne x2 y2 x3 y3 h2 h3
  have m23 := F.minus_ne x2 y2 x3 y3 h2 h3
  have hq := y_poly x1 y1 x2 y2 x3 y3 h1 h2 h3
  refine F.cross _ _ _ _ _ _ (frac_yl _ _ x3 y3 _ _ _ _ _ ax ay el) (frac_yr _ _ x1 y1 _ _ _ _ _ bx by' er) hq ?_ ?_
  · rw [den_ml _ _ x3 y3 _ _ _ _ ax ay]; exact F.mul_ne (F.mul_ne p12 m12) dl
  · rw [den_mr _ _ x1 y1 _ _ _ _ bx by']; exact F.mul_ne (F.mul_ne p23 m23) dr

/-- points as pairs -/
def padA (inv : Fin n → Fin n) (d : Fin n) (p q : Fin n × Fin n) : Fin n × Fin n := (sx inv d p.1 p.2 q.1 q.2, sy inv d p.1 p.2 q.1 q.2)
def OnP (d : Fin n) (p : Fin n × Fin n) : Prop := On d p.1 p.2
theorem on_zero : OnP d ((0, 1) : Fin n × Fin n) := by unfold OnP On; grind
theorem Fld.on_add (F : Fld n d i inv) (p q : Fin n × Fin n) (hp : OnP d p) (hq : OnP d q) : OnP d (padA inv d p q) := F.on_sum _ _ _ _ hp hq
theorem Fld.add_assoc (F : Fld n d i inv) (p q r : Fin n × Fin n) (hp : OnP d p) (hq : OnP d q) (hr : OnP d r) : padA inv d (padA inv d p q) r = padA inv d p (padA inv d q r) := by
  unfold padA
  exact Prod.ext (F.assoc_x _ _ _ _ _ _ hp hq hr) (F.assoc_y _ _ _ _ _ _ hp hq hr)
theorem add_comm' (p q : Fin n × Fin n) : padA inv d p q = padA inv d q p := by
  unfold padA sx sy
  have e1 : d * p.1 * q.1 * p.2 * q.2 = d * q.1 * p.1 * q.2 * p.2 := by grind
  have e2 : p.1 * q.2 + q.1 * p.2 = q.1 * p.2 + p.1 * q.2 := by grind
  have e3 : p.2 * q.2 + p.1 * q.1 = q.2 * p.2 + q.1 * p.1 := by grind
  rw [e1, e2, e3]
theorem Fld.add_zero (F : Fld n d i inv) (p : Fin n × Fin n) (hp : OnP d p) : padA inv d p (0, 1) = p := by
  have hx := F.sx_eq p.1 p.2 0 1 hp on_zero
  have hy := F.sy_eq p.1 p.2 0 1 hp on_zero
  unfold padA
  refine Prod.ext ?_ ?_
  · show sx inv d p.1 p.2 0 1 = p.1; grind
  · show sy inv d p.1 p.2 0 1 = p.2; grind
theorem on_neg (p : Fin n × Fin n) (hp : OnP d p) : OnP d (-p.1, p.2) := by
  unfold OnP On at *
  show p.2 * p.2 - -p.1 * -p.1 = 1 + d * -p.1 * -p.1 * p.2 * p.2
  grind
theorem Fld.add_neg (F : Fld n d i inv) (p : Fin n × Fin n) (hp : OnP d p) : padA inv d p (-p.1, p.2) = (0, 1) := by
  have hn := on_neg p hp
  have hx := F.sx_eq p.1 p.2 (-p.1) p.2 hp hn
  have hy := F.sy_eq p.1 p.2 (-p.1) p.2 hp hn
  have h1 := F.plus_ne p.1 p.2 (-p.1) p.2 hp hn
  have h2 := F.minus_ne p.1 p.2 (-p.1) p.2 hp hn
  have ho : p.2 * p.2 - p.1 * p.1 = 1 + d * p.1 * p.1 * p.2 * p.2 := hp
  unfold padA
  refine Prod.ext ?_ ?_
  · show sx inv d p.1 p.2 (-p.1) p.2 = 0
    exact F.cancel _ _ _ h1 (by grind)
  · show sy inv d p.1 p.2 (-p.1) p.2 = 1
    exact F.cancel _ _ _ h2 (by grind)
/-- so many times a point -/
def mulA (inv : Fin n → Fin n) (d : Fin n) (p : Fin n × Fin n) : Nat → Fin n × Fin n
  | 0 => (0, 1)
  | k + 1 => padA inv d (mulA inv d p k) p
theorem Fld.on_mul (F : Fld n d i inv) (p : Fin n × Fin n) (hp : OnP d p) (k : Nat) : OnP d (mulA inv d p k) := by
  induction k with
  | zero => exact on_zero
  | succ k ih => exact F.on_add _ _ ih hp
theorem Fld.zero_add (F : Fld n d i inv) (p : Fin n × Fin n) (hp : OnP d p) : padA inv d (0, 1) p = p := by rw [add_comm', F.add_zero p hp]
theorem Fld.mul_add (F : Fld n d i inv) (p : Fin n × Fin n) (hp : OnP d p) (a b : Nat) : mulA inv d p (a + b) = padA inv d (mulA inv d p a) (mulA inv d p b) := by
  induction b with
  | zero => rw [Nat.add_zero]; exact (F.add_zero _ (F.on_mul p hp a)).symm
  | succ b ih =>
    show padA inv d (mulA inv d p (a + b)) p = padA inv d (mulA inv d p a) (padA inv d (mulA inv d p b) p)
    rw [ih, F.add_assoc _ _ _ (F.on_mul p hp a) (F.on_mul p hp b) hp]
theorem Fld.mul_one (F : Fld n d i inv) (p : Fin n × Fin n) (hp : OnP d p) : mulA inv d p 1 = p := F.zero_add p hp
theorem Fld.mul_mul (F : Fld n d i inv) (p : Fin n × Fin n) (hp : OnP d p) (a b : Nat) : mulA inv d (mulA inv d p a) b = mulA inv d p (a * b) := by
  induction b with
  | zero => rfl
  | succ b ih =>
    show padA inv d (mulA inv d (mulA inv d p a) b) (mulA inv d p a) = mulA inv d p (a * (b + 1))
    rw [ih, ← F.mul_add p hp, Nat.mul_succ]
end Go.Proofs.Ytjiagjonlcadiaa
end
section
namespace Go.Proofs.Ytjiagjonlcadiaa
open Go.RowKit Go.Lib

theorem add64 (x y c : Int) (hx : 0 ≤ x) (hy : 0 ≤ y) (hc0 : 0 ≤ c) (hc : c ≤ 1) (w : World) : (callFunc 76 #[.int .u64 x, .int .u64 y, .int .u64 c]).run Try.prog w =
    .ok (.value (.tuple #[.int .u64 ((x + y + c) % 18446744073709551616), .int .u64 ((x + y + c) / 18446744073709551616)])) w := by
  rw [run_callFunc_extern Try.func76 (by kernel_rfl) (by kernel_rfl) (by kernel_rfl) (e := add64Entry) (by kernel_rfl), run_add64 x y c hx hy hc0 hc]
  rfl

def sub64Ent : Array Value → Sem Value := fun args => do
  let (x, y, b) ← Extern.MathBitsCarry.three "Sub64" args
  pure (Extern.MathBitsCarry.pair ((x + Extern.MathBitsCarry.m64 - y - b) % Extern.MathBitsCarry.m64) (if x < y + b then 1 else 0))

/-- the borrow -/
def bor (x y : Int) : Int := if x < y then 1 else 0
theorem bor_01 (x y : Int) : 0 ≤ bor x y ∧ bor x y ≤ 1 := by unfold bor; split <;> omega

theorem run_sub64n (x y b : Nat) (hb : b ≤ 1) (w : World) :
    (sub64Ent #[.int .u64 x, .int .u64 y, .int .u64 b]).run Try.prog w =
      .ok (.tuple #[.int .u64 (((x + 18446744073709551616 - y - b) % 18446744073709551616 : Nat) : Int), .int .u64 ((if x < y + b then 1 else 0 : Nat) : Int)]) w := by
  have : b = 0 ∨ b = 1 := by omega
  rcases this with rfl | rfl <;> rfl

theorem sub64 (x y b : Int) (hx : 0 ≤ x) (hy : 0 ≤ y) (hy' : y < 18446744073709551616) (hb0 : 0 ≤ b) (hb : b ≤ 1) (w : World) : (callFunc 80 #[.int .u64 x, .int .u64 y, .int .u64 b]).run Try.prog w =
    .ok (.value (.tuple #[.int .u64 ((x - y - b) % 18446744073709551616), .int .u64 (bor x (y + b))])) w := by
  obtain ⟨x, rfl⟩ := Int.eq_ofNat_of_zero_le hx
  obtain ⟨y, rfl⟩ := Int.eq_ofNat_of_zero_le hy
  obtain ⟨b, rfl⟩ := Int.eq_ofNat_of_zero_le hb0
  have e1 : (((x + 18446744073709551616 - y - b) % 18446744073709551616 : Nat) : Int) = ((x : Int) - y - b) % 18446744073709551616 := by omega
  have e2 : ((if x < y + b then 1 else 0 : Nat) : Int) = bor x (y + b) := by unfold bor; split <;> split <;> omega
  rw [← e1, ← e2, run_callFunc_extern Try.func80 (by kernel_rfl) (by kernel_rfl) (by kernel_rfl) (e := sub64Ent) (by kernel_rfl), run_sub64n x y b (by omega)]
  rfl

theorem add64_0 (x y : Int) (hx : 0 ≤ x) (hy : 0 ≤ y) (w : World) : (callFunc 76 #[.int .u64 x, .int .u64 y, .int .u64 0]).run Try.prog w =
    .ok (.value (.tuple #[.int .u64 ((x + y) % 18446744073709551616), .int .u64 ((x + y) / 18446744073709551616)])) w := by
  simpa using add64 x y 0 hx hy (Int.le_refl 0) (by decide) w
theorem sub64_0 (x y : Int) (hx : 0 ≤ x) (hy : 0 ≤ y) (hy' : y < 18446744073709551616) (w : World) : (callFunc 80 #[.int .u64 x, .int .u64 y, .int .u64 0]).run Try.prog w =
    .ok (.value (.tuple #[.int .u64 ((x - y) % 18446744073709551616), .int .u64 (bor x y)])) w := by
  simpa using sub64 x y 0 hx hy hy' (Int.le_refl 0) (by decide) w

namespace M64
theorem maskN (a : Nat) (ha : a < 18446744073709551616) : bits .and .u64 (a : Int) 4294967295 = ((a % 4294967296 : Nat) : Int) := by
  have h := bits_and_u64_nat a 4294967295 ha (by omega)
  have e : a &&& 4294967295 = a % 4294967296 := Nat.and_two_pow_sub_one_eq_mod a 32
  rw [e] at h
  exact h
theorem divN (a : Nat) : (a : Int) / 4294967296 = ((a / 4294967296 : Nat) : Int) := by omega
theorem mulN (a b : Nat) : (a : Int) * (b : Int) = ((a * b : Nat) : Int) := (Int.natCast_mul a b).symm
theorem addN (a b : Nat) : (a : Int) + (b : Int) = ((a + b : Nat) : Int) := (Int.natCast_add a b).symm
theorem wrapN (a : Nat) (ha : a < 18446744073709551616) : IntKind.u64.wrap (a : Int) = (a : Int) := by rw [IntKind.wrap_u64]; omega
theorem wrapM (a : Nat) : IntKind.u64.wrap (a : Int) = ((a % 18446744073709551616 : Nat) : Int) := by rw [IntKind.wrap_u64]; omega
end M64

set_option maxHeartbeats 1000000 in
theorem mul64N (x y : Nat) (hx : x < 18446744073709551616) (hy : y < 18446744073709551616) (w : World) :
    Calls Try.prog 75 #[.int .u64 x, .int .u64 y] w fun e w' => e = .returned (.tuple #[.int .u64 ((x * y / 18446744073709551616 : Nat) : Int), .int .u64 ((x * y % 18446744073709551616 : Nat) : Int)]) ∧ w = w' := by
  obtain ⟨bd, bt, bw, hhi⟩ := Lib.mul64_hi x y hx hy
  have ba := Lib.half_mul_le (a := x / 4294967296) (b := y / 4294967296) (by omega) (by omega)
  have bb := Lib.half_mul_le (a := x / 4294967296) (b := y % 4294967296) (by omega) (by omega)
  have bc := Lib.half_mul_le (a := x % 4294967296) (b := y / 4294967296) (by omega) (by omega)
  have ba' : x / 4294967296 * (y / 4294967296) < 18446744073709551616 := by omega
  have bb' : x / 4294967296 * (y % 4294967296) < 18446744073709551616 := by omega
  have bc' : x % 4294967296 * (y / 4294967296) < 18446744073709551616 := by omega
  have bh1 : x / 4294967296 * (y / 4294967296) + (x / 4294967296 * (y % 4294967296) + x % 4294967296 * (y % 4294967296) / 4294967296) / 4294967296 < 18446744073709551616 := by omega
  have bh : x / 4294967296 * (y / 4294967296) + (x / 4294967296 * (y % 4294967296) + x % 4294967296 * (y % 4294967296) / 4294967296) / 4294967296 + ((x / 4294967296 * (y % 4294967296) + x % 4294967296 * (y % 4294967296) / 4294967296) % 4294967296 + x % 4294967296 * (y / 4294967296)) / 4294967296 < 18446744073709551616 := by omega
  go_enter Try.func75, Try.ntmps75
  go_wp2
  simp only [M64.maskN x hx, M64.maskN y hy, M64.divN, M64.mulN, M64.addN, M64.wrapN _ bd, M64.wrapN _ bb', M64.wrapN _ bt, M64.maskN _ bt, M64.wrapN _ bc', M64.wrapN _ bw, M64.wrapN _ ba', M64.wrapN _ bh1, M64.wrapN _ bh, M64.wrapM (x * y)]
  rw [hhi]
  go_ret2
  exact ⟨rfl, rfl⟩

theorem mul64 (x y : Int) (hx0 : 0 ≤ x) (hx : x < 18446744073709551616) (hy0 : 0 ≤ y) (hy : y < 18446744073709551616) (w : World) :
    Calls Try.prog 75 #[.int .u64 x, .int .u64 y] w fun e w' => e = .returned (.tuple #[.int .u64 (x * y / 18446744073709551616), .int .u64 (x * y % 18446744073709551616)]) ∧ w = w' := by
  obtain ⟨x, rfl⟩ := Int.eq_ofNat_of_zero_le hx0
  obtain ⟨y, rfl⟩ := Int.eq_ofNat_of_zero_le hy0
  exact mul64N x y (by omega) (by omega) w

end Go.Proofs.Ytjiagjonlcadiaa
end
section
namespace Go.Proofs.Ytjiagjonlcadiaa
open Go.RowKit Go.Lib

/-- k cells of one integer kind -/
def rowl (kd : IntKind) (k : Nat) (f : Nat → Int) : List Value := (List.range k).map (fun i => Value.int kd (f i))
/-- the same, as an array -/
def row (kd : IntKind) (k : Nat) (f : Nat → Int) : Array Value := (rowl kd k f).toArray
/-- f, but x at i -/
def upd (f : Nat → Int) (i : Nat) (x : Int) : Nat → Int := fun j => if j = i then x else f j
theorem upd_same (f : Nat → Int) (i : Nat) (x : Int) : upd f i x i = x := by simp [upd]
theorem upd_ne (f : Nat → Int) (i j : Nat) (x : Int) (h : j ≠ i) : upd f i x j = f j := by simp [upd, h]

theorem rowl_len (kd : IntKind) (k : Nat) (f : Nat → Int) : (rowl kd k f).length = k := by simp [rowl]
theorem row_get (kd : IntKind) (k : Nat) (f : Nat → Int) (i : Nat) (h : i < k) : (row kd k f)[i]? = some (.int kd (f i)) := by
  simp [row, rowl, h]
theorem row_size (kd : IntKind) (k : Nat) (f : Nat → Int) : (row kd k f).size = k := by simp [row, rowl]
theorem row_none (kd : IntKind) (k : Nat) (f : Nat → Int) (i : Nat) (h : ¬ i < k) : (row kd k f)[i]? = none := by
  simp [row_size]; omega
theorem row_ext (kd : IntKind) (k : Nat) (f g : Nat → Int) (h : ∀ i, i < k → f i = g i) : row kd k f = row kd k g := by
  apply Array.ext_getElem?
  intro j
  by_cases hj : j < k
  · rw [row_get kd k _ j hj, row_get kd k _ j hj, h j hj]
  · rw [row_none kd k _ j hj, row_none kd k _ j hj]
theorem row_set (kd : IntKind) (k : Nat) (f : Nat → Int) (i : Nat) (x : Int) : (row kd k f).setIfInBounds i (.int kd x) = row kd k (upd f i x) := by
  apply Array.ext_getElem?
  intro j
  rw [Array.getElem?_setIfInBounds]
  simp only [row_size]
  by_cases hj : j < k
  · rw [row_get kd k _ j hj, row_get kd k _ j hj]
    unfold upd
    by_cases h : i = j
    · subst h; simp [hj]
    · have : ¬ j = i := fun e => h e.symm
      simp [h, this]
  · rw [row_none _ _ _ _ hj, row_none _ _ _ _ hj]; simp; omega
theorem row_one (kd : IntKind) (k : Nat) (f : Nat → Int) : (row kd k f).all (·.oneCell') = true := by
  simp [row, rowl, List.all_eq_true, Value.oneCell']

/-- block b holds just these cells, and may be written -/
def Has (w : World) (b : Nat) (c : Array Value) (t : TypeId) : Prop := w.heap[b]? = some (.cells c t (0, 0))
section has
variable {w w' : World} {b : Nat} {c : Array Value} {t : TypeId}
theorem Has.lt (h : Has w b c t) : b < w.heap.size := (Array.getElem?_eq_some_iff.1 h).1
theorem Has.cellAt (h : Has w b c t) (i : Nat) : w.cell? ⟨b, i, none⟩ = c[i]? := cell_of_row w b i c t _ h
theorem Has.cell {kd : IntKind} {k : Nat} {f : Nat → Int} (h : Has w b (row kd k f) t) (i : Nat) (hi : i < k) : w.cell? ⟨b, i, none⟩ = some (.int kd (f i)) := by
  rw [h.cellAt, row_get kd k f i hi]
theorem Has.range {l : List Value} (h : Has w b l.toArray t) : w.rangeAt b 0 l := fun j v hv => by
  rw [Nat.zero_add, h.cellAt]; simpa using hv
theorem Has.frozen (h : Has w b c t) (i : Nat) : w.frozen? ⟨b, i, none⟩ = false := frozen_of_row w b i c t h
theorem Has.setAt (h : Has w b c t) (i : Nat) (v : Value) : Has (w.setCell ⟨b, i, none⟩ v) b (c.setIfInBounds i v) t := heap_setCell_same w b i c t v h
theorem Has.set {kd : IntKind} {k : Nat} {f : Nat → Int} (h : Has w b (row kd k f) t) (i : Nat) (x : Int) : Has (w.setCell ⟨b, i, none⟩ (.int kd x)) b (row kd k (upd f i x)) t := by
  have := h.setAt i (.int kd x)
  rwa [row_set] at this
theorem Has.other (h : Has w b c t) (a : Addr) (v : Value) (hb : b ≠ a.block) : Has (w.setCell a v) b c t := (heap_setCell_other w a b v hb).trans h
theorem Has.drewN (h : Has w b c t) (n : Nat) : Has (w.drewN n) b c t := h
theorem Has.drew (h : Has w b c t) : Has w.drew b c t := h
theorem Has.alloc (h : Has w b c t) (o : Obj) : Has (w.alloc o) b c t := (Below.heap_alloc w o b h.lt).trans h
theorem Has.new (w : World) (c : Array Value) (t : TypeId) : Has (w.alloc (.cells c t)) w.heap.size c t := heap_alloc_new w _
theorem Has.new1 (w : World) (A : Obj) (c : Array Value) (t : TypeId) : Has ((w.alloc A).alloc (.cells c t)) (w.heap.size + 1) c t := by
  have := Has.new (w.alloc A) c t
  simpa using this
theorem Has.new2 (w : World) (A B : Obj) (c : Array Value) (t : TypeId) : Has (((w.alloc A).alloc B).alloc (.cells c t)) (w.heap.size + 1 + 1) c t := by
  have := Has.new ((w.alloc A).alloc B) c t
  simpa using this
theorem Has.new3 (w : World) (A B C : Obj) (c : Array Value) (t : TypeId) : Has ((((w.alloc A).alloc B).alloc C).alloc (.cells c t)) (w.heap.size + 1 + 1 + 1) c t := by
  have := Has.new (((w.alloc A).alloc B).alloc C) c t
  simpa using this
theorem Has.below {B : Nat} (h : Has w b c t) (hb : Below B w w') (hB : b < B) : Has w' b c t := (hb.block b hB).trans h
theorem Has.setRow (h : Has w b c t) (c' : Array Value) : Has (w.setRow b c') b c' t := setRow_heap w b c c' t _ h
theorem Has.setRow_other (h : Has w b c t) (g : Nat) (c' : Array Value) (hg : b ≠ g) : Has (w.setRow g c') b c t := (Go.setRow_other w g b c' hg).trans h
end has
/-- block b holds n cells, whichever, and may be written -/
def HasN (w : World) (b n : Nat) (t : TypeId) : Prop := ∃ c : Array Value, c.size = n ∧ Has w b c t
section hasn
variable {w w' : World} {b n : Nat} {t : TypeId}
theorem Has.toN {c : Array Value} (h : Has w b c t) (hn : c.size = n) : HasN w b n t := ⟨c, hn, h⟩
theorem HasN.new (w : World) (c : Array Value) (t : TypeId) (n : Nat) (hn : c.size = n) : HasN (w.alloc (.cells c t)) w.heap.size n t := ⟨c, hn, Has.new w c t⟩
theorem HasN.new1 (w : World) (A : Obj) (c : Array Value) (t : TypeId) (n : Nat) (hn : c.size = n) : HasN ((w.alloc A).alloc (.cells c t)) (w.heap.size + 1) n t := by
  have := HasN.new (w.alloc A) c t n hn
  simpa using this
theorem HasN.new2 (w : World) (A B : Obj) (c : Array Value) (t : TypeId) (n : Nat) (hn : c.size = n) : HasN (((w.alloc A).alloc B).alloc (.cells c t)) (w.heap.size + 1 + 1) n t := by
  have := HasN.new ((w.alloc A).alloc B) c t n hn
  simpa using this
theorem HasN.new3 (w : World) (A B C : Obj) (c : Array Value) (t : TypeId) (n : Nat) (hn : c.size = n) : HasN ((((w.alloc A).alloc B).alloc C).alloc (.cells c t)) (w.heap.size + 1 + 1 + 1) n t := by
  have := HasN.new (((w.alloc A).alloc B).alloc C) c t n hn
  simpa using this
theorem HasN.lt (h : HasN w b n t) : b < w.heap.size := let ⟨_, _, h⟩ := h; h.lt
theorem HasN.other (h : HasN w b n t) (a : Addr) (v : Value) (hb : b ≠ a.block) : HasN (w.setCell a v) b n t := let ⟨c, hn, h⟩ := h; ⟨c, hn, h.other a v hb⟩
theorem HasN.drewN (h : HasN w b n t) (k : Nat) : HasN (w.drewN k) b n t := h
theorem HasN.drew (h : HasN w b n t) : HasN w.drew b n t := h
theorem HasN.alloc (h : HasN w b n t) (o : Obj) : HasN (w.alloc o) b n t := let ⟨c, hn, h⟩ := h; ⟨c, hn, h.alloc o⟩
theorem HasN.below {B : Nat} (h : HasN w b n t) (hb : Below B w w') (hB : b < B) : HasN w' b n t := let ⟨c, hn, h⟩ := h; ⟨c, hn, h.below hb hB⟩
theorem HasN.setRow_other (h : HasN w b n t) (g : Nat) (c' : Array Value) (hg : b ≠ g) : HasN (w.setRow g c') b n t := let ⟨c, hn, h⟩ := h; ⟨c, hn, h.setRow_other g c' hg⟩
end hasn
theorem below_1 (w : World) (A : Obj) : Below w.heap.size w (w.alloc A) := (Below.refl _ _).alloc (Nat.le_refl _) _
theorem below_2 (w : World) (A B : Obj) : Below w.heap.size w ((w.alloc A).alloc B) := (below_1 w A).alloc (by simp) _
theorem below_3 (w : World) (A B C : Obj) : Below w.heap.size w (((w.alloc A).alloc B).alloc C) := (below_2 w A B).alloc (by simp; omega) _
theorem below_4 (w : World) (A B C D : Obj) : Below w.heap.size w ((((w.alloc A).alloc B).alloc C).alloc D) := (below_3 w A B C).alloc (by simp; omega) _
theorem below_drewN {B : Nat} {a w : World} (h : Below B a w) (n : Nat) : Below B a (w.drewN n) := ⟨h.os, h.tape, h.output, h.size, h.block⟩
theorem below_setRow {B : Nat} {a w : World} (h : Below B a w) (g : Nat) (c : Array Value) (hg : B ≤ g) : Below B a (w.setRow g c) :=
  h.trans ⟨rfl, rfl, rfl, by simp, fun k hk => setRow_other w g k c (by omega)⟩

/-- behind one call more -/
theorem held_next {w4 W w1 : World} (h : Below w4.heap.size w4 W) (hb : Below W.heap.size W w1) : Below w4.heap.size w4 w1 := h.trans (hb.mono h.size)
theorem Has.call {W w1 : World} {b : Nat} {c : Array Value} {t : TypeId} (h : Has W b c t) (hb : Below W.heap.size W w1) : Has w1 b c t := h.below hb h.lt
theorem HasN.call {W w1 : World} {b n : Nat} {t : TypeId} (h : HasN W b n t) (hb : Below W.heap.size W w1) : HasN w1 b n t := h.below hb h.lt
theorem range_below {w4 w1 : World} {b o : Nat} {l : List Value} (hR : w4.rangeAt b o l) (h : Below w4.heap.size w4 w1) (hlt : b < w4.heap.size) : w1.rangeAt b o l := fun j v hv =>
  (h.cell (p := ⟨b, o + j, none⟩) hlt).trans (hR j v hv)
theorem HasN.there {w : World} {b n : Nat} {t : TypeId} (h : HasN w b n t) : w.there b 0 n := fun j hj => by
  obtain ⟨c, hn, h⟩ := h
  rw [h.cellAt, h.frozen]
  simp [hn, hj]
theorem Has.setCells {w : World} {b : Nat} {t : TypeId} (l : List Value) : ∀ (c : Array Value) (o : Nat), Has w b c t → o + l.length ≤ c.size → Has (w.setCells b o l) b (c.toList.take o ++ l ++ c.toList.drop (o + l.length)).toArray t := by
  induction l generalizing w with
  | nil => intro c o h hl; simpa [World.setCells] using h
  | cons v l ih =>
    intro c o h hl
    simp only [World.setCells]
    have h1 := ih (c.setIfInBounds o v) (o + 1) (h.setAt o v) (by simp at hl ⊢; omega)
    have e : (c.setIfInBounds o v).toList.take (o + 1) ++ l ++ (c.setIfInBounds o v).toList.drop (o + 1 + l.length) = c.toList.take o ++ (v :: l) ++ c.toList.drop (o + (v :: l).length) := by
      have hlt : o < c.toList.length := by simp at hl ⊢; omega
      rw [Array.toList_setIfInBounds]
      generalize c.toList = xs at *
      have e1 : (xs.set o v).take (o + 1) = xs.take o ++ [v] := by
        rw [List.take_succ_eq_append_getElem (by simpa using hlt), List.take_set_of_le (Nat.le_refl _)]
        simp
      have e2 : (xs.set o v).drop (o + 1 + l.length) = xs.drop (o + 1 + l.length) := List.drop_set_of_lt (by omega)
      rw [e1, e2]
      simp [Nat.add_comm, Nat.add_left_comm]
    rw [← e]; exact h1
theorem heap_setCells_other (b : Nat) (l : List Value) : ∀ (w : World) (o k : Nat), k ≠ b → (w.setCells b o l).heap[k]? = w.heap[k]? := by
  induction l with
  | nil => intro w o k _; rfl
  | cons v l ih => intro w o k hk; simp only [World.setCells]; rw [ih _ _ _ hk]; exact heap_setCell_other w ⟨b, o, none⟩ k v hk
theorem Has.setCells_other {w : World} {b : Nat} {c : Array Value} {t : TypeId} (h : Has w b c t) (g o : Nat) (l : List Value) (hb : b ≠ g) : Has (w.setCells g o l) b c t := (heap_setCells_other g l w o b hb).trans h
theorem HasN.setCells_other {w : World} {b n : Nat} {t : TypeId} (h : HasN w b n t) (g o : Nat) (l : List Value) (hb : b ≠ g) : HasN (w.setCells g o l) b n t := let ⟨c, hn, h⟩ := h; ⟨c, hn, h.setCells_other g o l hb⟩

/-- the sum of the figures below n, to the base B -/
def sumf (B : Int) (f : Nat → Int) : Nat → Int
  | 0 => 0
  | n + 1 => sumf B f n + f n * B ^ n
theorem sumf_congr (B : Int) (f g : Nat → Int) (n : Nat) (h : ∀ i, i < n → f i = g i) : sumf B f n = sumf B g n := by
  induction n with
  | zero => rfl
  | succ n ih => simp only [sumf]; rw [ih (fun i hi => h i (by omega)), h n (by omega)]
theorem sumf_upd_above (B : Int) (f : Nat → Int) (n i : Nat) (x : Int) (h : n ≤ i) : sumf B (upd f i x) n = sumf B f n :=
  sumf_congr B _ _ n fun j hj => upd_ne f i j x (by omega)
theorem sumf_upd (B : Int) (f : Nat → Int) (n i : Nat) (x : Int) (h : i < n) : sumf B (upd f i x) n = sumf B f n + (x - f i) * B ^ i := by
  induction n with
  | zero => omega
  | succ n ih =>
    simp only [sumf]
    by_cases hi : i = n
    · subst hi
      rw [sumf_upd_above B f i i x (Nat.le_refl _), upd_same, Int.sub_mul]; omega
    · rw [ih (by omega), upd_ne f i n x (by omega)]; omega
theorem sumf_zero (B : Int) (f : Nat → Int) (n : Nat) (h : ∀ i, i < n → f i = 0) : sumf B f n = 0 := by
  induction n with
  | zero => rfl
  | succ n ih => simp only [sumf]; rw [ih (fun i hi => h i (by omega)), h n (by omega)]; simp
theorem sumf_nonneg (B : Int) (hB : 0 < B) (f : Nat → Int) (n : Nat) (h : ∀ i, i < n → 0 ≤ f i) : 0 ≤ sumf B f n := by
  induction n with
  | zero => simp [sumf]
  | succ n ih =>
    simp only [sumf]
    have h1 := ih (fun i hi => h i (by omega))
    have h2 : 0 ≤ f n * B ^ n := Int.mul_nonneg (h n (by omega)) (Int.le_of_lt (Int.pow_pos hB))
    omega
theorem sumf_lt (B : Int) (hB : 0 < B) (f : Nat → Int) (n : Nat) (h : ∀ i, i < n → f i < B) : sumf B f n < B ^ n := by
  induction n with
  | zero => simp [sumf]
  | succ n ih =>
    simp only [sumf]
    have h1 := ih (fun i hi => h i (by omega))
    have h2 : f n * B ^ n ≤ (B - 1) * B ^ n := Int.mul_le_mul_of_nonneg_right (by have := h n (by omega); omega) (Int.le_of_lt (Int.pow_pos hB))
    rw [Int.sub_mul] at h2
    rw [Int.pow_succ, Int.mul_comm (B ^ n) B]
    omega
/-- figure i of n to the base B -/
def dg (B n i : Nat) : Int := ((n / B ^ i % B : Nat) : Int)
theorem dg_bd (B n i : Nat) (hB : 0 < B) : 0 ≤ dg B n i ∧ dg B n i < B := by
  unfold dg
  have := Nat.mod_lt (n / B ^ i) hB
  omega
theorem sumf_dg (B n k : Nat) : sumf (B : Int) (dg B n) k = ((n % B ^ k : Nat) : Int) := by
  induction k with
  | zero => simp [sumf, Nat.mod_one]
  | succ k ih =>
    simp only [sumf]
    rw [ih, dg, Nat.pow_succ, Nat.mod_mul, ← Int.natCast_pow, Int.mul_comm, ← Int.natCast_mul, ← Int.natCast_add]
theorem sumf_uniq (B : Nat) (f : Nat → Int) (n k : Nat) (hf : ∀ i, i < k → 0 ≤ f i ∧ f i < B) (h : sumf (B : Int) f k = n) : ∀ i, i < k → f i = dg B n i := by
  induction k generalizing n with
  | zero => intro i hi; omega
  | succ k ih =>
    intro i hi
    have hB : 0 < (B : Int) := by have := hf k (by omega); omega
    have hBk : (0 : Int) < (B : Int) ^ k := Int.pow_pos hB
    simp only [sumf] at h
    have h1 := sumf_nonneg B hB f k (fun i hi => (hf i (by omega)).1)
    have h2 := sumf_lt B hB f k (fun i hi => (hf i (by omega)).2)
    have hk := hf k (by omega)
    obtain ⟨s, hs⟩ := Int.eq_ofNat_of_zero_le h1
    obtain ⟨d, hd⟩ := Int.eq_ofNat_of_zero_le hk.1
    rw [hs, hd] at h
    rw [hs] at h2
    rw [← Int.natCast_pow] at h h2
    have h' : s + d * B ^ k = n := by
      have : ((s + d * B ^ k : Nat) : Int) = (n : Int) := by rw [Int.natCast_add, Int.natCast_mul]; exact h
      omega
    have h2' : s < B ^ k := by omega
    have hpos : 0 < B ^ k := by omega
    by_cases hik : i = k
    · subst hik
      rw [hd, dg, ← h', Nat.add_mul_div_right _ _ hpos, Nat.div_eq_of_lt h2', Nat.zero_add, Nat.mod_eq_of_lt (by omega)]
    · rw [ih s (fun i hi => hf i (by omega)) hs i (by omega), dg, dg, ← h']
      have e : B ^ k = B ^ i * B * B ^ (k - i - 1) := by rw [← Nat.pow_succ, ← Nat.pow_add]; congr 1; omega
      rw [e, show d * (B ^ i * B * B ^ (k - i - 1)) = B ^ i * (B * (d * B ^ (k - i - 1))) by ac_rfl, Nat.add_mul_div_left _ _ (Nat.pow_pos (by omega)), Nat.add_mul_mod_self_left]
end Go.Proofs.Ytjiagjonlcadiaa
end
section
namespace Go.Proofs.Ytjiagjonlcadiaa
open Go.RowKit Go.Lib

/-- an element of the reference: 22 figures of 12 bits -/
def r22 (n : Nat) : Array Value := row .i64 22 (dg 4096 n)
theorem r22_size (n : Nat) : (r22 n).size = 22 := row_size _ _ _




/-- the prime -/
def PP : Nat := 57896044618658097711785492504343953926634992332820282019728792003956564819949




end Go.Proofs.Ytjiagjonlcadiaa
end
section
namespace Go.Proofs.Ytjiagjonlcadiaa
open Go.RowKit Go.Lib

theorem sumf_split (B : Int) (g : Nat → Int) (a b : Nat) : sumf B g (a + b) = sumf B g a + B ^ a * sumf B (fun j => g (j + a)) b := by
  induction b with
  | zero => simp [sumf]
  | succ b ih =>
    rw [← Nat.add_assoc]
    simp only [sumf]
    rw [ih, Int.mul_add, Int.pow_add, Nat.add_comm b a]
    have : g (a + b) * (B ^ a * B ^ b) = B ^ a * (g (a + b) * B ^ b) := by ac_rfl
    omega












end Go.Proofs.Ytjiagjonlcadiaa
end
section
namespace Go
variable {P : Program} {md : Region.Mode} {ops : Array Oper} {Q : Exit → Act → World → Prop} {f : Nat} {S : World → Prop}

/-- whatever order is picked from here on; behind each operation but number f the world meets S -/
def wpBut (P : Program) (md : Region.Mode) (ops : Array Oper) (Q : Exit → Act → World → Prop) (f : Nat) (S : World → Prop) : Nat → Array Bool → Act → World → Prop
  | 0, listed, a, w => Region.ready md ops listed = [] ∧ Q .normal a w
  | n + 1, listed, a, w => (Region.ready md ops listed = [] → Q .normal a w) ∧
      ∀ j ∈ Region.ready md ops listed, wpOp P ops Q j (fun a' w' => (j ≠ f → S w') ∧ wpBut P md ops Q f S n (listed.setIfInBounds j true) a' w') a w

theorem wpAny_of_but (n : Nat) : ∀ (listed : Array Bool) (a : Act) (w : World), wpBut P md ops Q f S n listed a w → wpAny P md ops Q n listed a w := by
  induction n with
  | zero => intro _ _ _ h; exact h
  | succ n ih => intro listed a w h; exact ⟨h.1, fun j hj => wpOp_mono (fun a' w' h' => ih _ a' w' h'.2) (h.2 j hj)⟩

theorem wpBut_gen {i : Nat} {oi : Oper} {v : Value} (hi : ops[i]? = some oi) (hsel : ∀ (j : Nat) (o : Oper) cs b, ops[j]? = some o → o.op ≠ .select cs b)
    (hif : i ≠ f) (hf : ∀ o, ops[f]? = some o → ∃ e ∈ o.after, Region.binds md e = true ∧ e.on = i) (hQ : ∀ c a w, Q (.panic c) (a.put oi.dst v) w → Q (.panic c) a w) (n : Nat) :
    ∀ (listed : Array Bool) (a : Act) (w : World),
      (∀ j oj, ops[j]? = some oj → j ≠ i → listed.getD j true = false → (∀ e ∈ oj.after, Region.binds md e = true → e.on ≠ i) → oi.apart ops oj = true) →
      i ∈ Region.ready md ops listed → YieldsIf P ops S oi v a → S w →
      wpBut P md ops Q f S n (listed.setIfInBounds i true) (a.put oi.dst v) w → wpBut P md ops Q f S (n + 1) listed a w := by
  induction n with
  | zero =>
    intro listed a w _ hr hy hS H
    refine ⟨fun h => (by rw [h] at hr; cases hr), fun j hj => ?_⟩
    by_cases hji : j = i
    · subst hji; exact hy.wpOp hi hS ⟨fun _ => hS, H⟩
    · have h0 := ready_mono hj hji
      rw [H.1] at h0
      cases h0
  | succ n ih =>
    intro listed a w hfree hr hy hS H
    refine ⟨fun h => (by rw [h] at hr; cases hr), fun j hj => ?_⟩
    by_cases hji : j = i
    · subst hji; exact hy.wpOp hi hS ⟨fun _ => hS, H⟩
    have hiun := (mem_ready.1 hr).1
    obtain ⟨hjun, oj, hoj, hall⟩ := mem_ready.1 hj
    -- j does not wait for i, which has not come up: so j is not f
    have hnot : ∀ e ∈ oj.after, Region.binds md e = true → e.on ≠ i := by
      intro e he hb heq
      have h1 := hall e he hb
      rw [heq] at h1
      by_cases hlt : i < listed.size
      · simp [hlt] at hiun h1; rw [hiun] at h1; cases h1
      · simp [Array.getElem?_eq_none (Nat.le_of_not_lt hlt)] at h1
    have hjf : j ≠ f := by
      rintro rfl
      obtain ⟨e, he, hb, hon⟩ := hf oj hoj
      exact hnot e he hb hon
    have hstep := wpOp_putIf hoj (hfree j oj hoj hji hjun hnot) (fun cs b => hsel i oi cs b hi) (fun cs b => hsel j oj cs b hoj) hQ hy (H.2 j (ready_mono hj hji))
    refine wpOp_mono (fun a' w' hk => ?_) hstep
    have hSw := hk.2.1 hjf
    refine ⟨fun _ => hSw, ih (listed.setIfInBounds j true) a' w' ?_ (ready_mono hr (Ne.symm hji)) hk.1 hSw ?_⟩
    · intro k ok hok hki hun hno
      refine hfree k ok hok hki ?_ hno
      by_cases hjk : j = k
      · subst hjk; exact hjun
      · rw [getD_set_ne true hjk] at hun; exact hun
    · rw [Array.setIfInBounds_comm _ _ hji]; exact hk.2.2

/-- does number f wait for number i? -/
def waitsFor (md : Region.Mode) (ops : Array Oper) (f i : Nat) : Bool := match ops[f]? with
  | some o => o.after.any fun e => Region.binds md e && e.on == i
  | none => true

/-- take number i first -/
theorem wpBut_take {i : Nat} {oi : Oper} {v : Value} {n : Nat} {listed : Array Bool} {a : Act} {w : World} (hi : ops[i]? = some oi) (hs : Region.noSelect ops = true) (hfr : Region.free md ops listed i = true)
    (hr : (Region.ready md ops listed).contains i = true) (hif : (i == f) = false) (hf : waitsFor md ops f i = true) (hQ : ∀ c a w, Q (.panic c) (a.put oi.dst v) w → Q (.panic c) a w) (hy : YieldsIf P ops S oi v a) (hS : S w)
    (h : wpBut P md ops Q f S n (listed.setIfInBounds i true) (a.put oi.dst v) w) : wpBut P md ops Q f S (n + 1) listed a w := by
  refine wpBut_gen hi (Region.noSelect_spec hs) (by simpa using hif) (fun o ho => ?_) hQ n listed a w (Region.free_spec hi hfr) (by simpa using hr) hy hS h
  unfold waitsFor at hf
  rw [ho] at hf
  simp only [Array.any_eq_true'] at hf
  obtain ⟨e, he, hb⟩ := hf
  simp only [Bool.and_eq_true, beq_iff_eq] at hb
  exact ⟨e, he, hb.1, hb.2⟩

theorem yieldsIf_load_row {oi : Oper} {a : Act} (hw : Region.wanted oi (yielded ops a.tmps) = true) (ty : TypeId) (x : Operand) (ho : oi.op = .load ty x) (g : Nat) (hx : a.eval x = .pointer (some ⟨g, 0, none⟩)) (t : TypeId) (cs : Array Value)
    {d : TypeDesc} (hS : ∀ w, S w → w.heap[g]? = some (.cells cs t (0, 0))) (hu : P.underlying ty = some d) (hd : (match d with | .struct _ | .array _ _ => true | _ => false) = true) (hi : (P.info? ty).map (·.size) = some cs.size) :
    YieldsIf P ops S oi (.agg cs) a := by
  refine Or.inl ⟨hw, fun w h => ?_⟩
  unfold execOp
  simp only [ho, hx, Instr.loadAt, Instr.sureAddr, Sem.run_bind, Sem.run_pure, Result.andThen_ok, run_loadVar_row w g t ty cs (0, 0) d (hS w h) hu hd hi]

/-- one operation alone may come up -/
theorem wpBut_one {i : Nat} {oi : Oper} {n : Nat} {listed : Array Bool} {a : Act} {w : World} (hr : Region.ready md ops listed = [i]) (hi : ops[i]? = some oi)
    (h : ∀ K : Act → World → Prop, Shut (∀ a' w', (i ≠ f → S w') → wpBut P md ops Q f S n (listed.setIfInBounds i true) a' w' → K a' w') → if Region.wanted oi (yielded ops a.tmps) = true then Oper.wp P oi a w K Q else K (a.put oi.dst undef) w) :
    wpBut P md ops Q f S (n + 1) listed a w := by
  refine ⟨fun h0 => (by rw [hr] at h0; cases h0), fun j hj => ?_⟩
  rw [hr] at hj
  obtain rfl : j = i := by simpa using hj
  exact wpOp_step hi fun K hK => h K fun a' w' hS hW => hK a' w' ⟨hS, hW⟩


theorem wpBut_done {n : Nat} {listed : Array Bool} {a : Act} {w : World} (hr : Region.ready md ops listed = []) (h : Q .normal a w) : wpBut P md ops Q f S n listed a w := by
  cases n with
  | zero => exact ⟨hr, h⟩
  | succ n => exact ⟨fun _ => h, by rw [hr]; simp⟩

theorem wp_region_but {id : Nat} {a : Act} {w : World} (f : Nat) (S : World → Prop) (hm : P.follows .mixedOrders = true)
    (h : wpBut P .any ops Q f S ops.size (Array.replicate ops.size false) a w.drew) : (Code.region id ops true).wp P Q a w :=
  wp_region_any hm (wpAny_of_but _ _ _ _ h)

/-- the condition: nothing that was there when the region began has turned -/
theorem wp_region_below {id : Nat} {a : Act} {w : World} (f : Nat) (hm : P.follows .mixedOrders = true)
    (h : ∀ W0 : World, W0 = w → wpBut P .any ops Q f (fun w' => Go.RowKit.Below W0.heap.size W0 w') ops.size (Array.replicate ops.size false) a W0.drew) : (Code.region id ops true).wp P Q a w :=
  wp_region_but f _ hm (h w rfl)
end Go
end
section
namespace Go.Proofs.Ytjiagjonlcadiaa
open Go.RowKit Go.Lib

theorem PP_pos : 0 < PP := by decide +kernel

end Go.Proofs.Ytjiagjonlcadiaa
end
section
namespace Go.Proofs.Ytjiagjonlcadiaa
open Go.RowKit Go.Lib



end Go.Proofs.Ytjiagjonlcadiaa
end
section
namespace Go.Proofs.Ytjiagjonlcadiaa
open Go.RowKit Go.Lib




end Go.Proofs.Ytjiagjonlcadiaa
end
section
namespace Go.Proofs.Ytjiagjonlcadiaa
open Go.RowKit Go.Lib


end Go.Proofs.Ytjiagjonlcadiaa
end
section
namespace Go.Proofs.Ytjiagjonlcadiaa
open Go.RowKit Go.Lib
/-- a key's bytes -/
def k32 (n : Nat) : Array Value := row .u8 32 (dg 256 n)
theorem k32_size (n : Nat) : (k32 n).size = 32 := row_size _ _ _


end Go.Proofs.Ytjiagjonlcadiaa
end
section
namespace Go.Proofs.Ytjiagjonlcadiaa
open Go.RowKit Go.Lib




end Go.Proofs.Ytjiagjonlcadiaa
end
section
namespace Go.Proofs.Ytjiagjonlcadiaa
open Go.RowKit Go.Lib

theorem PP_val : PP = 57896044618658097711785492504343953926634992332820282019728792003956564819949 := rfl
theorem int_num (n : Int) (m : Nat) (h : n = -(m : Int) - 1) : ((0 + (PP - m % PP)) % PP + (PP - 1 % PP)) % PP = (n % (PP : Int)).toNat := by
  subst h
  have hp := PP_val
  have hpos := PP_pos
  have hlt := Nat.mod_lt m hpos
  have hdm := Nat.div_add_mod m PP
  generalize m % PP = r at *
  generalize m / PP = q at *
  subst hdm
  have e1 : 1 % PP = 1 := by decide +kernel
  rw [e1]
  have e2 : (-((PP * q + r : Nat) : Int) - 1) = (-(r : Int) - 1) + (PP : Int) * (-(q : Int)) := by
    rw [Int.natCast_add, Int.natCast_mul, Int.mul_neg]; omega
  rw [e2, Int.add_mul_emod_self_left]
  rw [hp] at *
  omega





/-- a power modulo the prime, under a name: a closed one must not be reckoned by Nat's own power -/
def pwm (b e : Nat) : Nat := b ^ e % PP
theorem pwm_lt (b e : Nat) : pwm b e < PP := Nat.mod_lt _ PP_pos
end Go.Proofs.Ytjiagjonlcadiaa
end
section
namespace Go.Proofs.Ytjiagjonlcadiaa
open Go.RowKit Go.Lib
section
variable {P : Program} (w : World)
def eqr (n : Nat) (f g : Nat → Int) : Bool := (List.range n).all fun i => f i == g i
theorem run_equalIn_row (d : Nat) (t e : TypeId) (n : Nat) (kd : IntKind) (ht : P.underlying t = some (.array n e)) (he : P.underlying e = some (.int kd)) (hsz : ∀ w, (sizeOf e).run P w = .ok 1 w) (f g : Nat → Int) :
    (Op.equalIn (d + 2) t (.agg (row kd n f)) (.agg (row kd n g))).run P w = .ok (eqr n f g) w := by
  unfold eqr
  rw [List.range_eq_range', Op.equalIn]
  simp only [Sem.run_bind, run_underlying ht, Result.andThen_ok, hsz, Std.Legacy.Range.forIn_eq_forIn_range', Std.Legacy.Range.size, Nat.sub_zero, Nat.add_sub_cancel, Nat.div_one]
  have hl : ∀ i ∈ List.range' 0 n 1, i < n := fun i hi => by simpa using (List.mem_range'_1.1 hi).2
  generalize List.range' 0 n 1 = l at hl ⊢
  induction l with
  | nil => simp
  | cons i l ih =>
    have hi : i < n := hl i (by simp)
    have px : ∀ h : Nat → Int, (part e (row kd n h) (i * 1)).run P w = .ok (.int kd (h i)) w := fun h => by
      have hg := row_get kd n h i hi
      simp [part, isAgg, run_underlying he, hg]
    simp only [List.forIn_cons, Sem.run_bind, px, run_equalIn_int w d e kd kd _ _ he, Result.andThen_ok, List.all_cons]
    cases hb : (f i == g i)
    · simp
    · simp only [Bool.not_true, Bool.false_eq_true, if_false, Sem.run_pure, Result.andThen_ok, Bool.true_and]
      exact ih fun j hj => hl j (by simp [hj])
theorem run_index_row (t e : TypeId) (n : Nat) (kd : IntKind) (ht : P.underlying t = some (.array n e)) (he : P.underlying e = some (.int kd)) (hsz : ∀ w, (sizeOf e).run P w = .ok 1 w) (f : Nat → Int) (k : Nat) (hk : k < n) :
    (Instr.index t (.agg (row kd n f)) (.int .i64 (k : Int))).run P w = .ok (.int kd (f k)) w := by
  have hg := row_get kd n f k hk
  simp [Instr.index, asIntOf, run_underlying ht, hk, hsz, part, isAgg, run_underlying he, hg]
end
theorem eqr_dg (B n x y : Nat) (hx : x < B ^ n) (hy : y < B ^ n) : eqr n (dg B x) (dg B y) = decide (x = y) := by
  unfold eqr
  rw [Bool.eq_iff_iff]
  simp only [List.all_eq_true, List.mem_range, beq_iff_eq, decide_eq_true_eq]
  constructor
  · intro h
    have e1 := sumf_dg B x n
    have e2 := sumf_dg B y n
    rw [Nat.mod_eq_of_lt hx] at e1
    rw [Nat.mod_eq_of_lt hy] at e2
    rw [sumf_congr (B : Int) _ _ n h] at e1
    omega
  · rintro rfl i _; rfl
/-- two results: a row in a cell's block, and a slot -/
theorem results_cell_tmp_row {P : Program} {fn : Func} {p t2 : Tmp} {ty : TypeId} (h : fn.results = #[.cell p ty, .tmp t2]) (tmps : Array Value) (w : World) (g : Nat) (t : TypeId) (cs : Array Value) (fr : Nat × Nat) (d : TypeDesc)
    (hp : tmps.getD p undef = .pointer (some ⟨g, 0, none⟩)) (hg : w.heap[g]? = some (.cells cs t fr))
    (hu : P.underlying ty = some d) (hd : (match d with | .struct _ | .array _ _ => true | _ => false) = true) (hi : (P.info? ty).map (·.size) = some cs.size) :
    (results fn tmps).run P w = .ok (.tuple #[.agg cs, tmps.getD t2 undef]) w := by
  have hp' : tmps[p]?.getD undef = .pointer (some ⟨g, 0, none⟩) := by simpa using hp
  simp [results, h, hp', asAddr, run_loadVar_row w g t ty cs fr d hg hu hd hi]
theorem sz_u8 (w : World) : (sizeOf 5).run Try.prog w = .ok 1 w := by kernel_rfl
theorem sz_u64 (w : World) : (sizeOf 34).run Try.prog w = .ok 1 w := by kernel_rfl
end Go.Proofs.Ytjiagjonlcadiaa
end
section
namespace Go.Proofs.Ytjiagjonlcadiaa
open Go.RowKit Go.Lib

/-- the words of a number -/
def e4 (n : Nat) : Array Value := row .u64 4 (dg 18446744073709551616 n)
theorem e4_size (n : Nat) : (e4 n).size = 4 := row_size _ _ _
/-- an element that is r modulo the prime -/
def ElP (r : Nat) (w : World) (e : Ending) (w' : World) : Prop := ∃ m : Nat, m < 115792089237316195423570985008687907853269984665640564039457584007913129639936 ∧ m % PP = r ∧ e = .returned (.agg (e4 m)) ∧ Below w.heap.size w w'

theorem w_nn (n i : Nat) : 0 ≤ dg 18446744073709551616 n i := (dg_bd _ n i (by decide)).1
theorem w_lt (n i : Nat) : dg 18446744073709551616 n i < 18446744073709551616 := (dg_bd _ n i (by decide)).2
theorem p64_4 : (18446744073709551616 : Int) ^ 4 = 115792089237316195423570985008687907853269984665640564039457584007913129639936 := by decide +kernel
theorem n64_4 : (18446744073709551616 : Nat) ^ 4 = 115792089237316195423570985008687907853269984665640564039457584007913129639936 := by decide +kernel
theorem sum4 (n : Nat) (h : n < 115792089237316195423570985008687907853269984665640564039457584007913129639936) : sumf 18446744073709551616 (dg 18446744073709551616 n) 4 = n := by
  have := sumf_dg 18446744073709551616 n 4
  rw [n64_4, Nat.mod_eq_of_lt h] at this
  exact this
/-- four words are a number's -/
theorem e4_of (h : Nat → Int) (hd : ∀ j, j < 4 → 0 ≤ h j ∧ h j < 18446744073709551616) : ∃ m : Nat, m < 115792089237316195423570985008687907853269984665640564039457584007913129639936 ∧ row .u64 4 h = e4 m ∧ sumf 18446744073709551616 h 4 = m := by
  have h0 := sumf_nonneg 18446744073709551616 (by decide) h 4 (fun i hi => (hd i hi).1)
  have h1 := sumf_lt 18446744073709551616 (by decide) h 4 (fun i hi => (hd i hi).2)
  rw [p64_4] at h1
  obtain ⟨m, hm⟩ := Int.eq_ofNat_of_zero_le h0
  refine ⟨m, by omega, row_ext _ _ _ _ (sumf_uniq 18446744073709551616 h m 4 hd hm), hm⟩
theorem mod38 (A A' o o' : Nat) (h : A' + o' * 115792089237316195423570985008687907853269984665640564039457584007913129639936 = A + 38 * o) : (A' + o' * 115792089237316195423570985008687907853269984665640564039457584007913129639936) % PP = (A + o * 115792089237316195423570985008687907853269984665640564039457584007913129639936) % PP := by
  have e : 115792089237316195423570985008687907853269984665640564039457584007913129639936 = 38 + 2 * PP := by decide +kernel
  rw [h, e, Nat.mul_add, ← Nat.add_assoc, show o * (2 * PP) = PP * (2 * o) by ac_rfl, Nat.add_mul_mod_self_left, Nat.mul_comm 38 o]
theorem fold_step (S D g c r q : Int) (F : Int) (h : S + c * D = F) (hr : g + c = r + 18446744073709551616 * q) : (S + r * D) + q * (D * 18446744073709551616) = F + g * D := by
  have : g = r + 18446744073709551616 * q - c := by omega
  subst this; grind

set_option maxRecDepth 100000 in
set_option maxHeartbeats 2000000 in
theorem fold_any (n o : Nat) (hn : n < 115792089237316195423570985008687907853269984665640564039457584007913129639936) (ho : o < 18446744073709551616) (w : World) :
    Calls Try.prog 77 #[.agg (e4 n), .int .u64 o] w (ElP ((n + o * 115792089237316195423570985008687907853269984665640564039457584007913129639936) % PP) w) := by
  obtain ⟨r, hr⟩ : ∃ r, r = (n + o * 115792089237316195423570985008687907853269984665640564039457584007913129639936) % PP := ⟨_, rfl⟩
  rw [← hr]
  have Hn := Lib.hid hn; clear hn
  have Ho := Lib.hid ho; clear ho
  have Hr := Lib.hid hr; clear hr
  go_enter Try.func77, Try.ntmps77
  go_wp2_with fail
  go_loopg [1] (n + o * 115792089237316195423570985008687907853269984665640564039457584007913129639936) (fun gk s wr => ∃ A ov : Nat, gk = A + ov * 115792089237316195423570985008687907853269984665640564039457584007913129639936 ∧ gk % PP = r ∧ A < 115792089237316195423570985008687907853269984665640564039457584007913129639936 ∧ ov < 18446744073709551616 ∧ s = .int .u64 ov ∧ Has wr w.heap.size (e4 A) 36 ∧ HasN wr (w.heap.size + 1) 4 36 ∧ Below w.heap.size w wr)
  case atStart => exact ⟨n, o, rfl, Hr.out.symm, Hn.out, Ho.out, rfl, (Has.new _ _ _).alloc _, HasN.new1 _ _ _ _ 4 rfl, below_2 _ _ _⟩
  case round =>
    obtain ⟨A, ov, hgk, hmod, hA, hov, rfl, m0, m1, hB⟩ := hrel
    by_cases hz : 0 < ov
    · have hdec : (A : Int) = sumf 18446744073709551616 (dg 18446744073709551616 A) 4 := (sum4 A hA).symm
      have hm := fun w => mul64 (ov : Int) 38 (by omega) (by omega) (by omega) (by omega) w
      obtain ⟨hi, hhi⟩ : ∃ x : Int, x = (ov : Int) * 38 / 18446744073709551616 := ⟨_, rfl⟩
      obtain ⟨lo, hlo⟩ : ∃ x : Int, x = (ov : Int) * 38 % 18446744073709551616 := ⟨_, rfl⟩
      rw [← hhi, ← hlo] at hm
      have hi0 : 0 ≤ hi := by omega
      have hi1 : hi ≤ 37 := by omega
      have lo0 : 0 ≤ lo := by omega
      have lo1 : lo < 18446744073709551616 := by omega
      have hsplit : lo + hi * 18446744073709551616 = 38 * (ov : Int) := by omega
      have M0 := Lib.hid m0; clear m0
      have M1 := Lib.hid m1; clear m1
      have Hgk := Lib.hid hgk; clear hgk
      have Hmod := Lib.hid hmod; clear hmod
      have HA := Lib.hid hA; clear hA
      have Hdec := Lib.hid hdec; clear hdec
      have Hm := Lib.hid hm; clear hm
      have Hsplit := Lib.hid hsplit; clear hsplit
      clear hhi hlo
      go_wp2_with fail
      refine (Hm.out _).mono ?_
      rintro e w2 ⟨rfl, rfl⟩
      go_wp2_with fail
      obtain ⟨w3, rfl⟩ : ∃ w3 : World, w3 = wr := ⟨_, rfl⟩
      go_loopw [6, 15] (fun s i wr => ∃ (k : Nat) (h : Nat → Int) (c : Int), k ≤ 4 ∧ i = .int .i64 k ∧ s = .int .u64 c ∧ 0 ≤ c ∧ c < 18446744073709551616 ∧ (1 ≤ k → c ≤ 38) ∧ (∀ j, j < k → 0 ≤ h j ∧ h j < 18446744073709551616) ∧ (∀ j, k ≤ j → h j = dg 18446744073709551616 A j) ∧ sumf 18446744073709551616 h k + c * 18446744073709551616 ^ k = sumf 18446744073709551616 (dg 18446744073709551616 A) k + (if k = 0 then lo else 38 * (ov : Int)) ∧ Has wr w.heap.size (row .u64 4 h) 36 ∧ HasN wr (w.heap.size + 1) 4 36 ∧ Below w.heap.size w wr) (fun _ i _ => 4 - (intOf i).toNat)
      case atStart => exact ⟨0, dg 18446744073709551616 A, lo, by omega, rfl, rfl, lo0, lo1, fun h => by omega, fun j hj => by omega, fun _ _ => rfl, by simp [sumf], M0.out, M1.out, hB⟩
      case round =>
        clear M0 M1 hB
        obtain ⟨k, h, c, hk, rfl, rfl, c0, c1, hc, hd, hg, hs, m0, m1, hB⟩ := hrel
        have M0 := Lib.hid m0; clear m0
        have M1 := Lib.hid m1; clear m1
        have Hc := Lib.hid hc; clear hc
        have Hd := Lib.hid hd; clear hd
        have Hg := Lib.hid hg; clear hg
        have Hs := Lib.hid hs; clear hs
        by_cases hlt : k < 4
        · have h1 := M0.out.cell k hlt
          have hfz := M0.out.frozen k
          have x0 := w_nn A k
          have x1 := w_lt A k
          rw [Hg.out k (Nat.le_refl _)] at h1
          obtain ⟨x, hx⟩ : ∃ x, x = dg 18446744073709551616 A k := ⟨_, rfl⟩
          rw [← hx] at h1 x0 x1
          have ka := fun w => add64_0 x c x0 c0 w
          obtain ⟨s, hss⟩ : ∃ s, s = (x + c) % 18446744073709551616 := ⟨_, rfl⟩
          obtain ⟨d, hdd⟩ : ∃ d, d = (x + c) / 18446744073709551616 := ⟨_, rfl⟩
          rw [← hss, ← hdd] at ka
          have s0 : 0 ≤ s := by omega
          have s1 : s < 18446744073709551616 := by omega
          have d0 : 0 ≤ d := by omega
          have d1 : d ≤ 1 := by omega
          have hsum : x + c = s + 18446744073709551616 * d := by omega
          have Hx := Lib.hid hx; clear hx
          have Hsum := Lib.hid hsum; clear hsum
          clear hss hdd
          by_cases hk0 : k = 0
          · subst hk0
            go_wp2_with fail
            go_roundw
            case measure => simp [intOf]
            case rel =>
              refine ⟨1, upd h 0 s, d + hi, by omega, by go_num, rfl, by omega, by omega, fun _ => by omega, ?_, ?_, ?_, M0.out.set _ _, M1.out.other _ _ (by simp <;> omega), by first | exact hB.setCell (Nat.le_refl _) _ | exact (hB.setCell (Nat.le_refl _) _).drew⟩
              · intro j hj
                obtain rfl : j = 0 := by omega
                rw [upd_same]; exact ⟨s0, s1⟩
              · intro j hj; rw [upd_ne _ _ _ _ (by omega)]; exact Hg.out j (by omega)
              · have := Hsum.out
                have h3 := Hsplit.out
                have h4 := Hs.out
                simp only [sumf, upd_same, Int.pow_zero, Int.mul_one, Int.zero_add, if_true, Int.pow_one] at h4 ⊢
                rw [if_neg (by decide), ← Hx.out]
                omega
          · have ht : ((k : Int) == 0) = false := by simp; omega
            go_wp2_with fail
            go_roundw
            case measure => simp [intOf]; omega
            case rel =>
              refine ⟨k + 1, upd h k s, d, by omega, by go_num, rfl, by omega, by omega, fun _ => by omega, ?_, ?_, ?_, M0.out.set _ _, M1.out.other _ _ (by simp <;> omega), by first | exact hB.setCell (Nat.le_refl _) _ | exact (hB.setCell (Nat.le_refl _) _).drew⟩
              · intro j hj
                by_cases e : j = k
                · subst e; rw [upd_same]; exact ⟨s0, s1⟩
                · rw [upd_ne _ _ _ _ e]; exact Hd.out j (by omega)
              · intro j hj; rw [upd_ne _ _ _ _ (by omega)]; exact Hg.out j (by omega)
              · have h4 := Hs.out
                rw [if_neg hk0] at h4
                rw [if_neg (by omega)]
                simp only [sumf]
                rw [sumf_upd_above _ _ _ _ _ (Nat.le_refl _), upd_same, ← Hx.out, Int.pow_succ]
                have := fold_step _ _ x _ _ _ _ h4 Hsum.out
                omega
        · obtain rfl : k = 4 := by omega
          obtain ⟨A', hA', hrow, hsum⟩ := e4_of h Hd.out
          have hs4 := Hs.out
          rw [hsum, ← Hdec.out, if_neg (by omega), p64_4] at hs4
          have m0 := M0.out
          rw [hrow] at m0
          have hc38 := Hc.out (by omega)
          obtain ⟨o', rfl⟩ := Int.eq_ofNat_of_zero_le c0
          have hnum : A' + o' * 115792089237316195423570985008687907853269984665640564039457584007913129639936 = A + 38 * ov := by omega
          have hmod2 : (A' + o' * 115792089237316195423570985008687907853269984665640564039457584007913129639936) % PP = r := by rw [mod38 A A' ov o' hnum, ← Hgk.out]; exact Hmod.out
          have hms : A' + o' * 115792089237316195423570985008687907853269984665640564039457584007913129639936 < gk := by rw [Hgk.out]; omega
          have M0 := Lib.hid m0; clear m0
          have Hmod2 := Lib.hid hmod2; clear hmod2
          have Hms := Lib.hid hms; clear hms
          have HA' := Lib.hid hA'; clear hA'
          clear hrow hsum hs4 hnum
          go_wp2_with fail
          go_roundg (A' + o' * 115792089237316195423570985008687907853269984665640564039457584007913129639936)
          case measure => exact Hms.out
          case rel => exact ⟨A', o', rfl, Hmod2.out, HA'.out, by omega, rfl, M0.out, M1.out, hB⟩
    · obtain rfl : ov = 0 := by omega
      have hfin : A % PP = r := by rw [← hmod, hgk, Nat.zero_mul, Nat.add_zero]
      obtain ⟨Z, hZ, mz⟩ := m1
      have HBB := Lib.hid (below_setRow hB (w.heap.size + 1) (e4 A) (by omega))
      have M0 := Lib.hid m0; clear m0
      have Mz := Lib.hid mz; clear mz
      have HZ := Lib.hid hZ; clear hZ
      have Hfin := Lib.hid hfin; clear hfin
      have HA := Lib.hid hA; clear hA
      clear hmod hgk hov
      go_wp2_with (first | (refine wpList_load_row rfl 36 _ rfl (w.heap.size) rfl 36 (e4 A) (0, 0) _ M0.out Try.underlying36 rfl (by rw [e4_size]; kernel_rfl) ?_) | (refine wpList_store_row rfl 36 _ _ rfl (w.heap.size + 1) _ rfl rfl 36 Z Mz.out (by rw [e4_size]; kernel_rfl) (HZ.out.trans (e4_size _).symm) (row_one _ _ _) ?_))
      exact bodyPost_ret (v := .agg (e4 A)) (results_cell_row (t := 36) (by rfl) _ _ (w.heap.size + 1) _ _ _ rfl (Mz.out.setRow _) Try.underlying36 rfl (by rw [e4_size]; kernel_rfl)) rfl ⟨A, HA.out, Hfin.out, rfl, HBB.out⟩
end Go.Proofs.Ytjiagjonlcadiaa
end
section
namespace Go.Proofs.Ytjiagjonlcadiaa
open Go.RowKit Go.Lib

theorem add_step (S D F G x y c r q : Int) (h : S + c * D = F + G) (hr : x + y + c = r + 18446744073709551616 * q) : (S + r * D) + q * (D * 18446744073709551616) = (F + x * D) + (G + y * D) := by
  have : x = r + 18446744073709551616 * q - c - y := by omega
  subst this; grind
theorem sub_step (S D F G x y c r q : Int) (h : S = F - G + c * D) (hr : x - y - c = r - 18446744073709551616 * q) : (S + r * D) = (F + x * D) - (G + y * D) + q * (D * 18446744073709551616) := by
  have : x = r - 18446744073709551616 * q + c + y := by omega
  subst this h; grind

set_option maxRecDepth 100000 in
set_option maxHeartbeats 2000000 in
theorem plus_any (a b : Nat) (ha : a < 115792089237316195423570985008687907853269984665640564039457584007913129639936) (hb : b < 115792089237316195423570985008687907853269984665640564039457584007913129639936) (w : World) :
    Calls Try.prog 37 #[.agg (e4 a), .agg (e4 b)] w (ElP ((a + b) % PP) w) := by
  obtain ⟨r, hr⟩ : ∃ r, r = (a + b) % PP := ⟨_, rfl⟩
  rw [← hr]
  have Ha := Lib.hid ha; clear ha
  have Hb := Lib.hid hb; clear hb
  have Hr := Lib.hid hr; clear hr
  go_enter Try.func37, Try.ntmps37
  go_wp2_with fail
  go_loopw [5, 7] (fun s i wr => ∃ (k : Nat) (h : Nat → Int) (c : Int), k ≤ 4 ∧ i = .int .i64 k ∧ s = .int .u64 c ∧ 0 ≤ c ∧ c ≤ 1 ∧ (∀ j, j < k → 0 ≤ h j ∧ h j < 18446744073709551616) ∧ (∀ j, k ≤ j → h j = dg 18446744073709551616 a j) ∧ sumf 18446744073709551616 h k + c * 18446744073709551616 ^ k = sumf 18446744073709551616 (dg 18446744073709551616 a) k + sumf 18446744073709551616 (dg 18446744073709551616 b) k ∧ Has wr w.heap.size (row .u64 4 h) 36 ∧ Has wr (w.heap.size + 1) (e4 b) 36 ∧ HasN wr (w.heap.size + 1 + 1) 4 36 ∧ Below w.heap.size w wr) (fun _ i _ => 4 - (intOf i).toNat)
  case atStart => exact ⟨0, dg 18446744073709551616 a, 0, by omega, rfl, rfl, by omega, by omega, fun j hj => by omega, fun _ _ => rfl, by simp [sumf], ((Has.new _ _ _).alloc _).alloc _, (Has.new1 _ _ _ _).alloc _, HasN.new2 _ _ _ _ _ 4 rfl, below_3 _ _ _ _⟩
  case round =>
    obtain ⟨k, h, c, hk, rfl, rfl, c0, c1, hd, hg, hs, m0, m1, m2, hB⟩ := hrel
    have M0 := Lib.hid m0; clear m0
    have M1 := Lib.hid m1; clear m1
    have M2 := Lib.hid m2; clear m2
    have Hd := Lib.hid hd; clear hd
    have Hg := Lib.hid hg; clear hg
    have Hs := Lib.hid hs; clear hs
    by_cases hlt : k < 4
    · have h1 := M0.out.cell k hlt
      have h2 := M1.out.cell k hlt
      have hfz := M0.out.frozen k
      have x0 := w_nn a k
      have x1 := w_lt a k
      have y0 := w_nn b k
      have y1 := w_lt b k
      rw [Hg.out k (Nat.le_refl _)] at h1
      obtain ⟨x, hx⟩ : ∃ x, x = dg 18446744073709551616 a k := ⟨_, rfl⟩
      obtain ⟨y, hy⟩ : ∃ y, y = dg 18446744073709551616 b k := ⟨_, rfl⟩
      rw [← hx] at h1 x0 x1
      rw [← hy] at h2 y0 y1
      have ka := fun w => add64 x y c x0 y0 c0 c1 w
      obtain ⟨s, hss⟩ : ∃ s, s = (x + y + c) % 18446744073709551616 := ⟨_, rfl⟩
      obtain ⟨d, hdd⟩ : ∃ d, d = (x + y + c) / 18446744073709551616 := ⟨_, rfl⟩
      rw [← hss, ← hdd] at ka
      have s0 : 0 ≤ s := by omega
      have s1 : s < 18446744073709551616 := by omega
      have d0 : 0 ≤ d := by omega
      have d1 : d ≤ 1 := by omega
      have hsum : x + y + c = s + 18446744073709551616 * d := by omega
      have Hx := Lib.hid hx; clear hx
      have Hy := Lib.hid hy; clear hy
      have Hsum := Lib.hid hsum; clear hsum
      clear hss hdd
      go_wp2_with fail
      go_region
      go_wp2_with fail
      go_roundw
      case measure => simp [intOf]; omega
      case rel =>
        refine ⟨k + 1, upd h k s, d, by omega, by go_num, rfl, d0, d1, ?_, ?_, ?_, M0.out.set _ _, M1.out.other _ _ (by simp <;> omega), M2.out.other _ _ (by simp <;> omega), by first | exact hB.setCell (Nat.le_refl _) _ | exact (hB.setCell (Nat.le_refl _) _).drew⟩
        · intro j hj
          by_cases e : j = k
          · subst e; rw [upd_same]; exact ⟨s0, s1⟩
          · rw [upd_ne _ _ _ _ e]; exact Hd.out j (by omega)
        · intro j hj; rw [upd_ne _ _ _ _ (by omega)]; exact Hg.out j (by omega)
        · simp only [sumf]
          rw [sumf_upd_above _ _ _ _ _ (Nat.le_refl _), upd_same, ← Hx.out, ← Hy.out, Int.pow_succ]
          exact add_step _ _ _ _ _ _ _ _ _ Hs.out Hsum.out
    · obtain rfl : k = 4 := by omega
      obtain ⟨A', hA', hrow, hsum⟩ := e4_of h Hd.out
      have hs4 := Hs.out
      rw [hsum, sum4 a Ha.out, sum4 b Hb.out, p64_4] at hs4
      have m0 := M0.out
      rw [hrow] at m0
      obtain ⟨o', rfl⟩ := Int.eq_ofNat_of_zero_le c0
      have hf := fun w => fold_any A' o' hA' (by omega) w
      rw [show (A' + o' * 115792089237316195423570985008687907853269984665640564039457584007913129639936) % PP = r by rw [Hr.out]; congr 1; omega] at hf
      have M0 := Lib.hid m0; clear m0
      have Hf := Lib.hid hf; clear hf
      clear hrow hsum hs4 hA'
      go_wp2_with (refine wpList_load_row rfl 36 _ rfl (w.heap.size) rfl 36 (e4 A') (0, 0) _ M0.out Try.underlying36 rfl (by rw [e4_size]; kernel_rfl) ?_)
      refine (Hf.out _).mono ?_
      rintro e w1 ⟨m, hm, hmr, rfl, b1⟩
      obtain ⟨Z, hZ, mz⟩ := M2.out.call b1
      have HBB := Lib.hid (below_setRow (held_next hB b1) (w.heap.size + 1 + 1) (e4 m) (by omega))
      have Mz := Lib.hid mz; clear mz
      have HZ := Lib.hid hZ; clear hZ
      have Hm := Lib.hid hm; clear hm
      have Hmr := Lib.hid hmr; clear hmr
      clear b1
      go_wp2_with (refine wpList_store_row rfl 36 _ _ rfl (w.heap.size + 1 + 1) _ rfl rfl 36 Z Mz.out (by rw [e4_size]; kernel_rfl) (HZ.out.trans (e4_size _).symm) (row_one _ _ _) ?_)
      exact bodyPost_ret (v := .agg (e4 m)) (results_cell_row (t := 36) (by rfl) _ _ (w.heap.size + 1 + 1) _ _ _ rfl (Mz.out.setRow _) Try.underlying36 rfl (by rw [e4_size]; kernel_rfl)) rfl ⟨m, Hm.out, Hmr.out, rfl, HBB.out⟩
end Go.Proofs.Ytjiagjonlcadiaa
end
section
namespace Go.Proofs.Ytjiagjonlcadiaa
open Go.RowKit Go.Lib

theorem bor_sum (x y c : Int) (hx : 0 ≤ x) (hx' : x < 18446744073709551616) (hy : 0 ≤ y) (hy' : y < 18446744073709551616) (hc : 0 ≤ c) (hc' : c ≤ 1) :
    ∃ s d : Int, (x - y - c) % 18446744073709551616 = s ∧ bor x (y + c) = d ∧ 0 ≤ s ∧ s < 18446744073709551616 ∧ 0 ≤ d ∧ d ≤ 1 ∧ x - y - c = s - 18446744073709551616 * d := by
  refine ⟨_, _, rfl, rfl, by omega, by omega, (bor_01 _ _).1, (bor_01 _ _).2, ?_⟩
  unfold bor
  split <;> omega
/-- how many rounds are to come -/
def rounds (c A : Nat) : Nat := if c = 0 then 0 else if A < 38 then 2 else 1
theorem rounds_down (A A' d : Nat) (hd : d ≤ 1) (h : A' + 38 = A + d * 115792089237316195423570985008687907853269984665640564039457584007913129639936) (hA' : A' < 115792089237316195423570985008687907853269984665640564039457584007913129639936) : rounds d A' < rounds 1 A := by
  unfold rounds
  rw [if_neg (show ¬ (1 = 0) by decide)]
  by_cases h0 : d = 0
  · rw [if_pos h0]; split <;> omega
  · rw [if_neg h0, if_neg (by omega), if_pos (by omega)]; omega
/-- what is left, as a residue: A less c times 2^256, modulo the prime -/
theorem minus_mod (A A' d : Nat) (h : A' + 38 = A + d * 115792089237316195423570985008687907853269984665640564039457584007913129639936) : ((A' : Int) - d * 115792089237316195423570985008687907853269984665640564039457584007913129639936) % (PP : Int) = ((A : Int) - 1 * 115792089237316195423570985008687907853269984665640564039457584007913129639936) % (PP : Int) := by
  have e : (115792089237316195423570985008687907853269984665640564039457584007913129639936 : Int) = 38 + 2 * (PP : Int) := by decide +kernel
  have e2 : (A' : Int) - d * 115792089237316195423570985008687907853269984665640564039457584007913129639936 = ((A : Int) - 1 * 115792089237316195423570985008687907853269984665640564039457584007913129639936) + (PP : Int) * 2 := by omega
  rw [e2, Int.add_mul_emod_self_left]
theorem minus_res (a b : Nat) : (((a : Int) - b) % (PP : Int)).toNat = (a % PP + (PP - b % PP)) % PP := by
  have hp := PP_pos
  have hb := Nat.mod_lt b hp
  have e1 := Nat.div_add_mod a PP
  have e2 := Nat.div_add_mod b PP
  generalize a % PP = x at *
  generalize b % PP = y at *
  generalize a / PP = qa at *
  generalize b / PP = qb at *
  have : (a : Int) - b = ((x + (PP - y) : Nat) : Int) + (PP : Int) * ((qa : Int) - qb - 1) := by
    rw [← e1, ← e2, Int.natCast_add, Int.natCast_add, Int.natCast_add, Int.natCast_mul, Int.natCast_mul, Int.natCast_sub (by omega), Int.mul_sub, Int.mul_sub]
    omega
  rw [this, Int.add_mul_emod_self_left, ← Int.natCast_emod, Int.toNat_natCast]

set_option maxRecDepth 100000 in
set_option maxHeartbeats 4000000 in
theorem minus_any (a b : Nat) (ha : a < 115792089237316195423570985008687907853269984665640564039457584007913129639936) (hb : b < 115792089237316195423570985008687907853269984665640564039457584007913129639936) (w : World) :
    Calls Try.prog 39 #[.agg (e4 a), .agg (e4 b)] w (ElP ((a % PP + (PP - b % PP)) % PP) w) := by
  rw [← minus_res]
  obtain ⟨r, hr⟩ : ∃ r, r = ((a : Int) - b) % (PP : Int) := ⟨_, rfl⟩
  rw [← hr]
  have Ha := Lib.hid ha; clear ha
  have Hb := Lib.hid hb; clear hb
  have Hr := Lib.hid hr; clear hr
  go_enter Try.func39, Try.ntmps39
  go_wp2_with fail
  go_loopw [5, 9] (fun s i wr => ∃ (k : Nat) (h : Nat → Int) (c : Int), k ≤ 4 ∧ i = .int .i64 k ∧ s = .int .u64 c ∧ 0 ≤ c ∧ c ≤ 1 ∧ (∀ j, j < k → 0 ≤ h j ∧ h j < 18446744073709551616) ∧ (∀ j, k ≤ j → h j = dg 18446744073709551616 a j) ∧ sumf 18446744073709551616 h k = sumf 18446744073709551616 (dg 18446744073709551616 a) k - sumf 18446744073709551616 (dg 18446744073709551616 b) k + c * 18446744073709551616 ^ k ∧ Has wr w.heap.size (row .u64 4 h) 36 ∧ Has wr (w.heap.size + 1) (e4 b) 36 ∧ HasN wr (w.heap.size + 1 + 1) 4 36 ∧ Below w.heap.size w wr) (fun _ i _ => 4 - (intOf i).toNat)
  case atStart => exact ⟨0, dg 18446744073709551616 a, 0, by omega, rfl, rfl, by omega, by omega, fun j hj => by omega, fun _ _ => rfl, by simp [sumf], ((Has.new _ _ _).alloc _).alloc _, (Has.new1 _ _ _ _).alloc _, HasN.new2 _ _ _ _ _ 4 rfl, below_3 _ _ _ _⟩
  case round =>
    obtain ⟨k, h, c, hk, rfl, rfl, c0, c1, hd, hg, hs, m0, m1, m2, hB⟩ := hrel
    have M0 := Lib.hid m0; clear m0
    have M1 := Lib.hid m1; clear m1
    have M2 := Lib.hid m2; clear m2
    have Hd := Lib.hid hd; clear hd
    have Hg := Lib.hid hg; clear hg
    have Hs := Lib.hid hs; clear hs
    by_cases hlt : k < 4
    · have h1 := M0.out.cell k hlt
      have h2 := M1.out.cell k hlt
      have hfz := M0.out.frozen k
      have x0 := w_nn a k
      have x1 := w_lt a k
      have y0 := w_nn b k
      have y1 := w_lt b k
      rw [Hg.out k (Nat.le_refl _)] at h1
      obtain ⟨x, hx⟩ : ∃ x, x = dg 18446744073709551616 a k := ⟨_, rfl⟩
      obtain ⟨y, hy⟩ : ∃ y, y = dg 18446744073709551616 b k := ⟨_, rfl⟩
      rw [← hx] at h1 x0 x1
      rw [← hy] at h2 y0 y1
      have ka := fun w => sub64 x y c x0 y0 y1 c0 c1 w
      obtain ⟨s, d, hss, hdd, s0, s1, d0, d1, hsum⟩ := bor_sum x y c x0 x1 y0 y1 c0 c1
      rw [hss, hdd] at ka
      have Hx := Lib.hid hx; clear hx
      have Hy := Lib.hid hy; clear hy
      have Hsum := Lib.hid hsum; clear hsum
      clear hss hdd
      go_wp2_with fail
      go_region
      go_wp2_with fail
      go_roundw
      case measure => simp [intOf]; omega
      case rel =>
        refine ⟨k + 1, upd h k s, d, by omega, by go_num, rfl, d0, d1, ?_, ?_, ?_, M0.out.set _ _, M1.out.other _ _ (by simp <;> omega), M2.out.other _ _ (by simp <;> omega), by first | exact hB.setCell (Nat.le_refl _) _ | exact (hB.setCell (Nat.le_refl _) _).drew⟩
        · intro j hj
          by_cases e : j = k
          · subst e; rw [upd_same]; exact ⟨s0, s1⟩
          · rw [upd_ne _ _ _ _ e]; exact Hd.out j (by omega)
        · intro j hj; rw [upd_ne _ _ _ _ (by omega)]; exact Hg.out j (by omega)
        · simp only [sumf]
          rw [sumf_upd_above _ _ _ _ _ (Nat.le_refl _), upd_same, ← Hx.out, ← Hy.out, Int.pow_succ]
          exact sub_step _ _ _ _ _ _ _ _ _ Hs.out Hsum.out
    · obtain rfl : k = 4 := by omega
      obtain ⟨A', hA', hrow, hsum⟩ := e4_of h Hd.out
      have hs4 := Hs.out
      rw [hsum, sum4 a Ha.out, sum4 b Hb.out, p64_4] at hs4
      have m0 := M0.out
      rw [hrow] at m0
      obtain ⟨o', rfl⟩ := Int.eq_ofNat_of_zero_le c0
      have hres : ((A' : Int) - o' * 115792089237316195423570985008687907853269984665640564039457584007913129639936) % (PP : Int) = r := by rw [Hr.out]; congr 1; omega
      have M1' := Lib.hid ((M1.out.toN (e4_size _)))
      have M0 := Lib.hid m0; clear m0
      have Hres := Lib.hid hres; clear hres
      have HA' := Lib.hid hA'; clear hA'
      clear hrow hsum hs4 Ha Hb Hr M1
      go_wp2_with fail
      obtain ⟨w2, rfl⟩ : ∃ w2 : World, w2 = wr := ⟨_, rfl⟩
      go_loopg [5] (rounds o' A') (fun gk s wr => ∃ A c : Nat, gk = rounds c A ∧ A < 115792089237316195423570985008687907853269984665640564039457584007913129639936 ∧ c ≤ 1 ∧ s = .int .u64 c ∧ ((A : Int) - c * 115792089237316195423570985008687907853269984665640564039457584007913129639936) % (PP : Int) = r ∧ Has wr w.heap.size (e4 A) 36 ∧ HasN wr (w.heap.size + 1 + 1) 4 36 ∧ Below w.heap.size w wr)
      case atStart => exact ⟨A', o', rfl, HA'.out, by omega, rfl, Hres.out, M0.out, M2.out, hB⟩
      case round =>
        clear M0 M2 hB Hres HA' M1'
        obtain ⟨A, c, hgk, hA, hc, rfl, hres, m0, m2, hB⟩ := hrel
        have M0 := Lib.hid m0; clear m0
        have M2 := Lib.hid m2; clear m2
        have Hgk := Lib.hid hgk; clear hgk
        have Hres := Lib.hid hres; clear hres
        have HA := Lib.hid hA; clear hA
        by_cases hz : 0 < c
        · obtain rfl : c = 1 := by omega
          have h1 := M0.out.cell 0 (by omega)
          have hfz := M0.out.frozen 0
          have x0 := w_nn A 0
          have x1 := w_lt A 0
          obtain ⟨x, hx⟩ : ∃ x, x = dg 18446744073709551616 A 0 := ⟨_, rfl⟩
          rw [← hx] at h1 x0 x1
          have ka := fun w => sub64_0 x 38 x0 (by omega) (by omega) w
          obtain ⟨s, d, hss, hdd, s0, s1, d0, d1, hsum⟩ := bor_sum x 38 0 x0 x1 (by omega) (by omega) (by omega) (by omega)
          rw [Int.sub_zero] at hss
          rw [Int.add_zero] at hdd
          rw [hss, hdd] at ka
          have m0' := M0.out.set 0 s
          have m2' := M2.out.other ⟨w.heap.size, 0, none⟩ (.int .u64 s) (by simp <;> omega)
          have hB' := hB.setCell (p := ⟨w.heap.size, 0, none⟩) (Nat.le_refl _) (.int .u64 s)
          have Hx := Lib.hid hx; clear hx
          have Hsum := Lib.hid hsum; clear hsum
          have M0' := Lib.hid m0'; clear m0'
          have M2' := Lib.hid m2'; clear m2'
          have HB' := Lib.hid hB'; clear hB'
          clear hss hdd
          go_wp2_with fail
          clear M0 M2 hB
          obtain ⟨w3, rfl⟩ : ∃ w3 : World, w3 = wr := ⟨_, rfl⟩
          go_loopw [7, 8] (fun u i wr => ∃ (k : Nat) (h : Nat → Int) (dd : Int), 1 ≤ k ∧ k ≤ 4 ∧ i = .int .i64 k ∧ u = .int .u64 dd ∧ 0 ≤ dd ∧ dd ≤ 1 ∧ (∀ j, j < k → 0 ≤ h j ∧ h j < 18446744073709551616) ∧ (∀ j, k ≤ j → h j = dg 18446744073709551616 A j) ∧ sumf 18446744073709551616 h k = sumf 18446744073709551616 (dg 18446744073709551616 A) k - 38 + dd * 18446744073709551616 ^ k ∧ Has wr w.heap.size (row .u64 4 h) 36 ∧ HasN wr (w.heap.size + 1 + 1) 4 36 ∧ Below w.heap.size w wr) (fun _ i _ => 4 - (intOf i).toNat)
          case atStart =>
            refine ⟨1, upd (dg 18446744073709551616 A) 0 s, d, by omega, by omega, rfl, rfl, d0, d1, ?_, ?_, ?_, M0'.out, M2'.out, HB'.out⟩
            · intro j hj
              obtain rfl : j = 0 := by omega
              rw [upd_same]; exact ⟨s0, s1⟩
            · intro j hj; rw [upd_ne _ _ _ _ (by omega)]
            · have := Hsum.out
              simp only [sumf, upd_same, Int.pow_zero, Int.mul_one, Int.zero_add, Int.pow_one]
              rw [← Hx.out]; omega
          case round =>
            clear M0' M2' HB'
            obtain ⟨k, h, dd, hk1, hk, rfl, rfl, dd0, dd1, hd, hg, hs, m0, m2, hB⟩ := hrel
            have M0 := Lib.hid m0; clear m0
            have M2 := Lib.hid m2; clear m2
            have Hd := Lib.hid hd; clear hd
            have Hg := Lib.hid hg; clear hg
            have Hs := Lib.hid hs; clear hs
            by_cases hlt : k < 4
            · have h1 := M0.out.cell k hlt
              have hfz := M0.out.frozen k
              have y0 := w_nn A k
              have y1 := w_lt A k
              rw [Hg.out k (Nat.le_refl _)] at h1
              obtain ⟨y, hy⟩ : ∃ y, y = dg 18446744073709551616 A k := ⟨_, rfl⟩
              rw [← hy] at h1 y0 y1
              have kb := fun w => sub64 y 0 dd y0 (by omega) (by omega) dd0 dd1 w
              obtain ⟨s', d', hss, hdd, s0', s1', d0', d1', hsum'⟩ := bor_sum y 0 dd y0 y1 (by omega) (by omega) dd0 dd1
              rw [hss, hdd] at kb
              have Hy := Lib.hid hy; clear hy
              have Hsum' := Lib.hid hsum'; clear hsum'
              clear hss hdd ka
              go_wp2_with fail
              go_roundw
              case measure => simp [intOf]; omega
              case rel =>
                refine ⟨k + 1, upd h k s', d', by omega, by omega, by go_num, rfl, d0', d1', ?_, ?_, ?_, M0.out.set _ _, M2.out.other _ _ (by simp <;> omega), by first | exact hB.setCell (Nat.le_refl _) _ | exact (hB.setCell (Nat.le_refl _) _).drew⟩
                · intro j hj
                  by_cases e : j = k
                  · subst e; rw [upd_same]; exact ⟨s0', s1'⟩
                  · rw [upd_ne _ _ _ _ e]; exact Hd.out j (by omega)
                · intro j hj; rw [upd_ne _ _ _ _ (by omega)]; exact Hg.out j (by omega)
                · have := sub_step _ _ _ 38 _ 0 _ _ _ Hs.out Hsum'.out
                  simp only [sumf]
                  rw [sumf_upd_above _ _ _ _ _ (Nat.le_refl _), upd_same, ← Hy.out, Int.pow_succ, this]
                  omega
            · obtain rfl : k = 4 := by omega
              obtain ⟨A2, hA2, hrow, hsum2⟩ := e4_of h Hd.out
              have hs4 := Hs.out
              rw [hsum2, sum4 A HA.out, p64_4] at hs4
              have m0 := M0.out
              rw [hrow] at m0
              obtain ⟨o2, rfl⟩ := Int.eq_ofNat_of_zero_le dd0
              have hnum : A2 + 38 = A + o2 * 115792089237316195423570985008687907853269984665640564039457584007913129639936 := by omega
              have hres2 : ((A2 : Int) - o2 * 115792089237316195423570985008687907853269984665640564039457584007913129639936) % (PP : Int) = r := by rw [minus_mod A A2 o2 hnum]; exact Hres.out
              have hms : rounds o2 A2 < gk := by rw [Hgk.out]; exact rounds_down A A2 o2 (by omega) hnum hA2
              have M0 := Lib.hid m0; clear m0
              have Hres2 := Lib.hid hres2; clear hres2
              have HA2 := Lib.hid hA2; clear hA2
              have Hms := Lib.hid hms; clear hms
              clear hrow hsum2 hs4 ka hnum
              go_wp2_with fail
              go_roundg (rounds o2 A2)
              case measure => exact Hms.out
              case rel => exact ⟨A2, o2, rfl, HA2.out, by omega, rfl, Hres2.out, M0.out, M2.out, hB⟩
        · obtain rfl : c = 0 := by omega
          obtain ⟨Z, hZ, mz⟩ := M2.out
          have hfin : A % PP = r.toNat := by
            have := Hres.out
            rw [← this]
            have e : ((A : Int) - ((0 : Nat) : Int) * 115792089237316195423570985008687907853269984665640564039457584007913129639936) = (A : Int) := by omega
            rw [e, ← Int.natCast_emod, Int.toNat_natCast]
          have HBB := Lib.hid (below_setRow hB (w.heap.size + 1 + 1) (e4 A) (by omega))
          have Mz := Lib.hid mz; clear mz
          have HZ := Lib.hid hZ; clear hZ
          have Hfin := Lib.hid hfin; clear hfin
          clear Hgk Hres
          go_wp2_with (first | (refine wpList_load_row rfl 36 _ rfl (w.heap.size) rfl 36 (e4 A) (0, 0) _ M0.out Try.underlying36 rfl (by rw [e4_size]; kernel_rfl) ?_) | (refine wpList_store_row rfl 36 _ _ rfl (w.heap.size + 1 + 1) _ rfl rfl 36 Z Mz.out (by rw [e4_size]; kernel_rfl) (HZ.out.trans (e4_size _).symm) (row_one _ _ _) ?_))
          exact bodyPost_ret (v := .agg (e4 A)) (results_cell_row (t := 36) (by rfl) _ _ (w.heap.size + 1 + 1) _ _ _ rfl (Mz.out.setRow _) Try.underlying36 rfl (by rw [e4_size]; kernel_rfl)) rfl ⟨A, HA.out, Hfin.out, rfl, HBB.out⟩
end Go.Proofs.Ytjiagjonlcadiaa
end
section
namespace Go.Proofs.Ytjiagjonlcadiaa
open Go.RowKit Go.Lib

theorem mul_step (x y wd cr : Int) (hx : 0 ≤ x) (hx' : x < 18446744073709551616) (hy : 0 ≤ y) (hy' : y < 18446744073709551616) (hw : 0 ≤ wd) (hw' : wd < 18446744073709551616) (hc : 0 ≤ cr) (hc' : cr < 18446744073709551616) :
    ∃ hi lo s1 c1 s2 c2 : Int, x * y / 18446744073709551616 = hi ∧ x * y % 18446744073709551616 = lo ∧ (lo + wd) % 18446744073709551616 = s1 ∧ (lo + wd) / 18446744073709551616 = c1 ∧ (s1 + cr) % 18446744073709551616 = s2 ∧ (s1 + cr) / 18446744073709551616 = c2 ∧
      0 ≤ hi ∧ hi < 18446744073709551616 ∧ 0 ≤ lo ∧ lo < 18446744073709551616 ∧ 0 ≤ s1 ∧ s1 < 18446744073709551616 ∧ 0 ≤ c1 ∧ c1 ≤ 1 ∧ 0 ≤ s2 ∧ s2 < 18446744073709551616 ∧ 0 ≤ c2 ∧ c2 ≤ 1 ∧ hi + c1 < 18446744073709551616 ∧ hi + c1 + c2 < 18446744073709551616 ∧
      s2 + 18446744073709551616 * (hi + c1 + c2) = x * y + wd + cr := by
  have hp : x * y ≤ 18446744073709551615 * 18446744073709551615 := Int.mul_le_mul (by omega) (by omega) hy (by decide)
  have hp0 : 0 ≤ x * y := Int.mul_nonneg hx hy
  generalize x * y = p at *
  exact ⟨_, _, _, _, _, _, rfl, rfl, rfl, rfl, rfl, rfl, by omega, by omega, by omega, by omega, by omega, by omega, by omega, by omega, by omega, by omega, by omega, by omega, by omega, by omega, by omega⟩
theorem sumf_succ (B : Int) (f : Nat → Int) (n : Nat) : sumf B f (n + 1) = sumf B f n + f n * B ^ n := rfl
theorem mul_add (H G D X b y cr wd s2 k' Bk : Int) (h : H + cr * (D * Bk) = G + X * D * b) (hs : s2 + 18446744073709551616 * k' = X * y + wd + cr) : H + (s2 - wd) * (D * Bk) + k' * (D * (Bk * 18446744073709551616)) = G + X * D * (b + y * Bk) := by
  have : s2 = X * y + wd + cr - 18446744073709551616 * k' := by omega
  subst this; grind
theorem low_add (S D F G x y c r q : Int) (h : S + c * D = F + 38 * G) (hr : r + 18446744073709551616 * q = y * 38 + x + c) : (S + r * D) + q * (D * 18446744073709551616) = (F + x * D) + 38 * (G + y * D) := by
  have : r = y * 38 + x + c - 18446744073709551616 * q := by omega
  subst this; grind
theorem lh_mod (A o L H m : Nat) (h : A + o * 115792089237316195423570985008687907853269984665640564039457584007913129639936 = L + 38 * H) (hm : m = L + 115792089237316195423570985008687907853269984665640564039457584007913129639936 * H) : (A + o * 115792089237316195423570985008687907853269984665640564039457584007913129639936) % PP = m % PP := by
  have e : 115792089237316195423570985008687907853269984665640564039457584007913129639936 = 38 + 2 * PP := by decide +kernel
  rw [h, hm, e, Nat.add_mul, ← Nat.add_assoc, show 2 * PP * H = PP * (2 * H) by ac_rfl, Nat.add_mul_mod_self_left]

set_option maxRecDepth 100000 in
set_option maxHeartbeats 4000000 in
theorem times_any (a b : Nat) (ha : a < 115792089237316195423570985008687907853269984665640564039457584007913129639936) (hb : b < 115792089237316195423570985008687907853269984665640564039457584007913129639936) (w : World) :
    Calls Try.prog 31 #[.agg (e4 a), .agg (e4 b)] w (ElP (a * b % PP) w) := by
  obtain ⟨r, hr⟩ : ∃ r, r = a * b % PP := ⟨_, rfl⟩
  rw [← hr]
  have Ha := Lib.hid ha; clear ha
  have Hb := Lib.hid hb; clear hb
  have Hr := Lib.hid hr; clear hr
  go_enter Try.func31, Try.ntmps31
  have M0 := Lib.hid (((Has.new w (e4 a) 36).alloc (.cells (e4 b) 36)).alloc (.cells (#[.int .u64 0, .int .u64 0, .int .u64 0, .int .u64 0] : Array Value) 36) |>.alloc (.cells (#[.int .u64 0, .int .u64 0, .int .u64 0, .int .u64 0, .int .u64 0, .int .u64 0, .int .u64 0, .int .u64 0] : Array Value) 96))
  go_wp2_with (refine wpList_load_row rfl 36 _ rfl (w.heap.size) rfl 36 (e4 a) (0, 0) _ M0.out Try.underlying36 rfl (by rw [e4_size]; kernel_rfl) ?_)
  clear M0
  go_loopw [21] (fun i wr => ∃ (k : Nat) (h : Nat → Int), k ≤ 4 ∧ i = .int .i64 k ∧ (∀ j, 0 ≤ h j ∧ h j < 18446744073709551616) ∧ (∀ j, k + 4 ≤ j → h j = 0) ∧ sumf 18446744073709551616 h (k + 4) = sumf 18446744073709551616 (dg 18446744073709551616 a) k * b ∧ Has wr w.heap.size (e4 a) 36 ∧ Has wr (w.heap.size + 1) (e4 b) 36 ∧ HasN wr (w.heap.size + 1 + 1) 4 36 ∧ Has wr (w.heap.size + 1 + 1 + 1) (row .u64 8 h) 96 ∧ Below w.heap.size w wr) (fun i _ => 4 - (intOf i).toNat)
  case atStart => exact ⟨0, fun _ => 0, by omega, rfl, fun j => by simp, fun _ _ => rfl, by rw [sumf_zero _ _ _ (fun _ _ => rfl)]; simp [sumf], ((Has.new _ _ _).alloc _ |>.alloc _).alloc _, ((Has.new1 _ _ _ _).alloc _).alloc _, (HasN.new2 _ _ _ _ _ 4 rfl).alloc _, Has.new3 _ _ _ _ _ _, below_4 _ _ _ _ _⟩
  case round =>
    obtain ⟨i, g, hi, rfl, hd, hz, hs, m0, m1, m2, m3, hB⟩ := hrel
    have M0 := Lib.hid m0; clear m0
    have M1 := Lib.hid m1; clear m1
    have M2 := Lib.hid m2; clear m2
    have M3 := Lib.hid m3; clear m3
    have Hd := Lib.hid hd; clear hd
    have Hz := Lib.hid hz; clear hz
    have Hs := Lib.hid hs; clear hs
    by_cases hlt : i < 4
    · have hix := fun w => run_index_row w 36 34 4 .u64 Try.underlying36 Try.underlying34 sz_u64 (dg 18446744073709551616 a) i hlt
      have x0 := w_nn a i
      have x1 := w_lt a i
      obtain ⟨x, hx⟩ : ∃ x, x = dg 18446744073709551616 a i := ⟨_, rfl⟩
      rw [← hx] at hix x0 x1
      rw [show row .u64 4 (dg 18446744073709551616 a) = e4 a from rfl] at hix
      have Hx := Lib.hid hx; clear hx
      go_wp2_with (refine wpList_load_row rfl 36 _ rfl (w.heap.size + 1) rfl 36 (e4 b) (0, 0) _ M1.out Try.underlying36 rfl (by rw [e4_size]; kernel_rfl) ?_)
      obtain ⟨w2, rfl⟩ : ∃ w2 : World, w2 = wr := ⟨_, rfl⟩
      go_loopw [8, 26] (fun u s wr => ∃ (k : Nat) (h : Nat → Int) (cr : Int), k ≤ 4 ∧ s = .int .i64 k ∧ u = .int .u64 cr ∧ 0 ≤ cr ∧ cr < 18446744073709551616 ∧ (∀ j, 0 ≤ h j ∧ h j < 18446744073709551616) ∧ (∀ j, i + 4 ≤ j → h j = 0) ∧ sumf 18446744073709551616 h (i + 4) + cr * (18446744073709551616 ^ i * 18446744073709551616 ^ k) = sumf 18446744073709551616 g (i + 4) + x * 18446744073709551616 ^ i * sumf 18446744073709551616 (dg 18446744073709551616 b) k ∧ Has wr w.heap.size (e4 a) 36 ∧ Has wr (w.heap.size + 1) (e4 b) 36 ∧ HasN wr (w.heap.size + 1 + 1) 4 36 ∧ Has wr (w.heap.size + 1 + 1 + 1) (row .u64 8 h) 96 ∧ Below w.heap.size w wr) (fun _ s _ => 4 - (intOf s).toNat)
      case atStart => exact ⟨0, g, 0, by omega, rfl, rfl, by omega, by omega, Hd.out, Hz.out, by rw [show sumf 18446744073709551616 (dg 18446744073709551616 b) 0 = 0 from rfl]; simp, M0.out, M1.out, M2.out, M3.out, hB⟩
      case round =>
        clear M0 M1 M2 M3 hB
        obtain ⟨k, h, cr, hk, rfl, rfl, cr0, cr1, hd, hz, hs, m0, m1, m2, m3, hB⟩ := hrel
        have He := Lib.hid hd; clear hd
        have Hy := Lib.hid hz; clear hz
        have Ht := Lib.hid hs; clear hs
        have M0 := Lib.hid m0; clear m0
        have M1 := Lib.hid m1; clear m1
        have M2 := Lib.hid m2; clear m2
        have M3 := Lib.hid m3; clear m3
        by_cases hlk : k < 4
        · have hiy := fun w => run_index_row w 36 34 4 .u64 Try.underlying36 Try.underlying34 sz_u64 (dg 18446744073709551616 b) k hlk
          have y0 := w_nn b k
          have y1 := w_lt b k
          have h3 := M3.out.cell (i + k) (by omega)
          have hfz := M3.out.frozen (i + k)
          have z0 := (He.out (i + k)).1
          have z1 := (He.out (i + k)).2
          obtain ⟨y, hy⟩ : ∃ y, y = dg 18446744073709551616 b k := ⟨_, rfl⟩
          obtain ⟨wd, hwd⟩ : ∃ z, z = h (i + k) := ⟨_, rfl⟩
          rw [← hy] at hiy y0 y1
          rw [← hwd] at h3 z0 z1
          rw [show row .u64 4 (dg 18446744073709551616 b) = e4 b from rfl] at hiy
          have hm := fun w => mul64 x y x0 x1 y0 y1 w
          obtain ⟨hi', lo, s1, c1, s2, c2, e1, e2, e3, e4', e5, e6, b1, b2, b3, b4, b5, b6, b7, b8, b9, b10, b11, b12, b13, b14, hsum⟩ := mul_step x y wd cr x0 x1 y0 y1 z0 z1 cr0 cr1
          have ka := fun w => add64_0 lo wd b3 z0 w
          have kb := fun w => add64_0 s1 cr b5 cr0 w
          rw [e1, e2] at hm
          rw [e3, e4'] at ka
          rw [e5, e6] at kb
          have HyK := Lib.hid hy; clear hy
          have Hwd := Lib.hid hwd; clear hwd
          have Hm := Lib.hid hm; clear hm
          have Hsum := Lib.hid hsum; clear hsum
          clear e1 e2 e3 e4' e5 e6
          go_wp2_with fail
          refine (Hm.out _).mono ?_
          rintro e w3 ⟨rfl, rfl⟩
          go_wp2_with fail
          go_roundw
          case measure => simp [intOf]; omega
          case rel =>
            refine ⟨k + 1, upd h (i + k) s2, hi' + c1 + c2, by omega, by go_num, rfl, by omega, b14, ?_, ?_, ?_, M0.out.other _ _ (by simp <;> omega), M1.out.other _ _ (by simp <;> omega), M2.out.other _ _ (by simp <;> omega), M3.out.set _ _, by first | exact hB.setCell (by simp <;> omega) _ | exact (hB.setCell (by simp <;> omega) _).drew⟩
            · intro j
              by_cases e : j = i + k
              · subst e; rw [upd_same]; exact ⟨b9, b10⟩
              · rw [upd_ne _ _ _ _ e]; exact He.out j
            · intro j hj; rw [upd_ne _ _ _ _ (by omega)]; exact Hy.out j hj
            · rw [sumf_upd _ _ _ _ _ (by omega), ← Hwd.out, Int.pow_add]
              simp only [sumf]
              rw [← HyK.out, Int.pow_succ]
              exact mul_add _ _ _ _ _ _ _ _ _ _ _ Ht.out Hsum.out
        · obtain rfl : k = 4 := by omega
          have h3 := M3.out.cell (i + 4) (by omega)
          have hfz := M3.out.frozen (i + 4)
          clear hix
          go_wp2_with fail
          go_roundw
          case measure => simp [intOf]; omega
          case rel =>
            refine ⟨i + 1, upd h (i + 4) cr, by omega, by go_num, ?_, ?_, ?_, M0.out.other _ _ (by simp <;> omega), M1.out.other _ _ (by simp <;> omega), M2.out.other _ _ (by simp <;> omega), M3.out.set _ _, by first | exact hB.setCell (by simp <;> omega) _ | exact (hB.setCell (by simp <;> omega) _).drew⟩
            · intro j
              by_cases e : j = i + 4
              · subst e; rw [upd_same]; exact ⟨cr0, cr1⟩
              · rw [upd_ne _ _ _ _ e]; exact He.out j
            · intro j hj; rw [upd_ne _ _ _ _ (by omega)]; exact Hy.out j (by omega)
            · rw [show i + 1 + 4 = (i + 4) + 1 by omega]
              have e1 := Ht.out
              rw [Hs.out, sum4 b Hb.out] at e1
              rw [sumf_succ _ (upd h (i + 4) cr) (i + 4), sumf_succ _ (dg 18446744073709551616 a) i, sumf_upd_above _ _ _ _ _ (Nat.le_refl _), upd_same, Int.pow_add 18446744073709551616 i 4, Int.add_mul, ← Hx.out]
              exact e1
    · obtain rfl : i = 4 := by omega
      have hwide := Hs.out
      rw [sum4 a Ha.out] at hwide
      have hlow := e4_of g (fun j _ => Hd.out j)
      have hhigh := e4_of (fun j => g (j + 4)) (fun j _ => Hd.out (j + 4))
      obtain ⟨lw, hlw, _, hlws⟩ := hlow
      obtain ⟨hg, hhg, _, hhgs⟩ := hhigh
      have hsp := sumf_split 18446744073709551616 g 4 4
      rw [show (4 + 4 : Nat) = 8 from rfl] at hsp
      rw [show (4 + 4 : Nat) = 8 from rfl, hsp, hlws, hhgs, p64_4] at hwide
      have hnum : a * b = lw + 115792089237316195423570985008687907853269984665640564039457584007913129639936 * hg := by
        have : ((a * b : Nat) : Int) = ((lw + 115792089237316195423570985008687907853269984665640564039457584007913129639936 * hg : Nat) : Int) := by rw [Int.natCast_mul, ← hwide, Int.natCast_add, Int.natCast_mul]; rfl
        exact Int.ofNat_inj.1 this
      have N0 := Lib.hid (M2.out.alloc (.cells (#[.int .u64 0, .int .u64 0, .int .u64 0, .int .u64 0] : Array Value) 36))
      have N3 := Lib.hid (M3.out.alloc (.cells (#[.int .u64 0, .int .u64 0, .int .u64 0, .int .u64 0] : Array Value) 36))
      have N4 := Lib.hid (Has.new wr (#[.int .u64 0, .int .u64 0, .int .u64 0, .int .u64 0] : Array Value) 36)
      have HB := Lib.hid (hB.alloc hB.size (.cells (#[.int .u64 0, .int .u64 0, .int .u64 0, .int .u64 0] : Array Value) 36))
      have hl3 := M3.out.lt
      have Hnum := Lib.hid hnum; clear hnum
      have Hlws := Lib.hid hlws; clear hlws
      have Hhgs := Lib.hid hhgs; clear hhgs
      clear hwide hsp M0 M1 M2 M3 hB Ha Hb Hs
      rw [show ((4 : Nat) : Int) = 4 from rfl]
      go_wp2_with fail
      obtain ⟨w2, rfl⟩ : ∃ w2 : World, w2 = wr := ⟨_, rfl⟩
      go_loopw [15, 68] (fun u s wr => ∃ (k : Nat) (h : Nat → Int) (cr : Int), k ≤ 4 ∧ s = .int .i64 k ∧ u = .int .u64 cr ∧ 0 ≤ cr ∧ cr < 18446744073709551616 ∧ (∀ j, 0 ≤ h j ∧ h j < 18446744073709551616) ∧ sumf 18446744073709551616 h k + cr * 18446744073709551616 ^ k = sumf 18446744073709551616 g k + 38 * sumf 18446744073709551616 (fun j => g (j + 4)) k ∧ HasN wr (w.heap.size + 1 + 1) 4 36 ∧ Has wr (w.heap.size + 1 + 1 + 1) (row .u64 8 g) 96 ∧ Has wr w2.heap.size (row .u64 4 h) 36 ∧ Below w.heap.size w wr) (fun _ s _ => 4 - (intOf s).toNat)
      case atStart => exact ⟨0, fun _ => 0, 0, by omega, rfl, rfl, by omega, by omega, fun j => by simp, by simp [sumf], N0.out, N3.out, N4.out, HB.out⟩
      case round =>
        clear N0 N3 N4 HB
        obtain ⟨k, h, cr, hk, rfl, rfl, cr0, cr1, hd, hs, m2, m3, m4, hB⟩ := hrel
        have He := Lib.hid hd; clear hd
        have M2 := Lib.hid m2; clear m2
        have M3 := Lib.hid m3; clear m3
        have M4 := Lib.hid m4; clear m4
        have Hs := Lib.hid hs; clear hs
        by_cases hlk : k < 4
        · have h1 := M3.out.cell k (by omega)
          have h2 := M3.out.cell (k + 4) (by omega)
          have h3 := M4.out.cell k hlk
          have hfz := M4.out.frozen k
          have x0 := (Hd.out (k + 4)).1
          have x1 := (Hd.out (k + 4)).2
          have z0 := (Hd.out k).1
          have z1 := (Hd.out k).2
          obtain ⟨x, hx⟩ : ∃ x, x = g (k + 4) := ⟨_, rfl⟩
          obtain ⟨wd, hwd⟩ : ∃ z, z = g k := ⟨_, rfl⟩
          rw [← hx] at h2 x0 x1
          rw [← hwd] at h1 z0 z1
          have hm := fun w => mul64 x 38 x0 x1 (by omega) (by omega) w
          obtain ⟨hi', lo, s1, c1, s2, c2, e1, e2, e3, e4', e5, e6, b1, b2, b3, b4, b5, b6, b7, b8, b9, b10, b11, b12, b13, b14, hsum⟩ := mul_step x 38 wd cr x0 x1 (by omega) (by omega) z0 z1 cr0 cr1
          have ka := fun w => add64_0 lo wd b3 z0 w
          have kb := fun w => add64_0 s1 cr b5 cr0 w
          rw [e1, e2] at hm
          rw [e3, e4'] at ka
          rw [e5, e6] at kb
          have Hx := Lib.hid hx; clear hx
          have Hwd := Lib.hid hwd; clear hwd
          have Hm := Lib.hid hm; clear hm
          have Hsum := Lib.hid hsum; clear hsum
          clear e1 e2 e3 e4' e5 e6
          go_wp2_with fail
          refine (Hm.out _).mono ?_
          rintro e w3 ⟨rfl, rfl⟩
          go_wp2_with fail
          go_roundw
          case measure => simp [intOf]; omega
          case rel =>
            refine ⟨k + 1, upd h k s2, hi' + c1 + c2, by omega, by go_num, rfl, by omega, b14, ?_, ?_, M2.out.other _ _ (by simp <;> omega), M3.out.other _ _ (by simp <;> omega), M4.out.set _ _, by first | exact hB.setCell (by simp <;> omega) _ | exact (hB.setCell (by simp <;> omega) _).drew⟩
            · intro j
              by_cases e : j = k
              · subst e; rw [upd_same]; exact ⟨b9, b10⟩
              · rw [upd_ne _ _ _ _ e]; exact He.out j
            · simp only [sumf]
              rw [sumf_upd_above _ _ _ _ _ (Nat.le_refl _), upd_same, ← Hx.out, ← Hwd.out, Int.pow_succ]
              exact low_add _ _ _ _ _ _ _ _ _ Hs.out Hsum.out
        · obtain rfl : k = 4 := by omega
          obtain ⟨A', hA', hrow, hsumA⟩ := e4_of h (fun j _ => He.out j)
          have hs4 := Hs.out
          rw [hsumA, Hlws.out, Hhgs.out, p64_4] at hs4
          have m4 := M4.out
          rw [hrow] at m4
          obtain ⟨o', rfl⟩ := Int.eq_ofNat_of_zero_le cr0
          have hf := fun w => fold_any A' o' hA' (by omega) w
          have hres : (A' + o' * 115792089237316195423570985008687907853269984665640564039457584007913129639936) % PP = r := by rw [Hr.out]; exact lh_mod A' o' lw hg (a * b) (by omega) Hnum.out
          rw [hres] at hf
          have Q4 := Lib.hid m4; clear m4 M4
          have Hf := Lib.hid hf; clear hf
          clear hrow hsumA hs4 hA' hres hlw hhg
          go_wp2_with (refine wpList_load_row rfl 36 _ rfl (w2.heap.size) rfl 36 (e4 A') (0, 0) _ Q4.out Try.underlying36 rfl (by rw [e4_size]; kernel_rfl) ?_)
          refine (Hf.out _).mono ?_
          rintro e w4 ⟨m, hm, hmr, rfl, b1⟩
          obtain ⟨Z, hZ, mz⟩ := M2.out.call b1
          have HBB := Lib.hid (below_setRow (held_next hB b1) (w.heap.size + 1 + 1) (e4 m) (by omega))
          have Mz := Lib.hid mz; clear mz
          have HZ := Lib.hid hZ; clear hZ
          have Hm := Lib.hid hm; clear hm
          have Hmr := Lib.hid hmr; clear hmr
          clear b1
          go_wp2_with (refine wpList_store_row rfl 36 _ _ rfl (w.heap.size + 1 + 1) _ rfl rfl 36 Z Mz.out (by rw [e4_size]; kernel_rfl) (HZ.out.trans (e4_size _).symm) (row_one _ _ _) ?_)
          exact bodyPost_ret (v := .agg (e4 m)) (results_cell_row (t := 36) (by rfl) _ _ (w.heap.size + 1 + 1) _ _ _ rfl (Mz.out.setRow _) Try.underlying36 rfl (by rw [e4_size]; kernel_rfl)) rfl ⟨m, Hm.out, Hmr.out, rfl, HBB.out⟩
end Go.Proofs.Ytjiagjonlcadiaa
end
section
namespace Go.Proofs.Ytjiagjonlcadiaa
open Go.RowKit Go.Lib

/-- word q, behind the bytes from k on -/
def ofw (n k q : Nat) : Nat := if k ≤ 8 * q then n / 256 ^ (8 * q) % 256 ^ 8 else if 8 * q + 8 ≤ k then 0 else n / 256 ^ k % 256 ^ (8 * q + 8 - k)
theorem ofw_word (n k q : Nat) (h1 : 8 * q ≤ k) (h2 : k ≤ 8 * q + 8) : ofw n k q = n / 256 ^ k % 256 ^ (8 * q + 8 - k) := by
  unfold ofw
  split
  · have : k = 8 * q := by omega
    subst this; rw [show 8 * q + 8 - 8 * q = 8 by omega]
  · split
    · have : k = 8 * q + 8 := by omega
      subst this; simp [Nat.mod_one]
    · rfl
theorem ofw_other (n k q : Nat) (h : q ≠ k / 8) : ofw n (k + 1) q = ofw n k q := by
  unfold ofw
  by_cases h1 : k + 1 ≤ 8 * q
  · rw [if_pos h1, if_pos (by omega)]
  · rw [if_neg h1, if_neg (show ¬ k ≤ 8 * q by omega), if_pos (show 8 * q + 8 ≤ k + 1 by omega), if_pos (show 8 * q + 8 ≤ k by omega)]
theorem ofw_step (n k : Nat) : ofw n k (k / 8) = ofw n (k + 1) (k / 8) * 256 + n / 256 ^ k % 256 := by
  rw [ofw_word n k (k / 8) (by omega) (by omega), ofw_word n (k + 1) (k / 8) (by omega) (by omega)]
  have e : 8 * (k / 8) + 8 - k = (8 * (k / 8) + 8 - (k + 1)) + 1 := by omega
  rw [e, Nat.pow_succ 256 (8 * (k / 8) + 8 - (k + 1)), Nat.mul_comm, Nat.mod_mul, Nat.pow_succ 256 k, ← Nat.div_div_eq_div_mul]
  omega
theorem ofw_lt (n k : Nat) : ofw n (k + 1) (k / 8) < 72057594037927936 := by
  rw [ofw_word n (k + 1) (k / 8) (by omega) (by omega)]
  have h1 : n / 256 ^ (k + 1) % 256 ^ (8 * (k / 8) + 8 - (k + 1)) < 256 ^ (8 * (k / 8) + 8 - (k + 1)) := Nat.mod_lt _ (Nat.pow_pos (by decide))
  have h2 : 256 ^ (8 * (k / 8) + 8 - (k + 1)) ≤ 256 ^ 7 := Nat.pow_le_pow_right (by decide) (by omega)
  have h3 : (256 : Nat) ^ 7 = 72057594037927936 := by decide
  omega
theorem or_byte (a b : Nat) (ha : a < 72057594037927936) (hb : b < 256) : bits .or .u64 ((a : Int) * 256) (b : Int) = ((a * 256 + b : Nat) : Int) := by
  have h := bits_or_u64_nat (a * 256) b (by omega) (by omega)
  have e : a * 256 ||| b = a * 256 + b := by
    have := Nat.shiftLeft_add_eq_or_of_lt (i := 8) (b := b) (by omega) a
    rw [Nat.shiftLeft_eq] at this
    exact this.symm
  rw [e] at h
  rw [← h, Int.natCast_mul]; rfl
theorem and_top (a : Nat) (ha : a < 18446744073709551616) : bits .and .u64 (a : Int) 9223372036854775807 = ((a % 9223372036854775808 : Nat) : Int) := by
  have h := bits_and_u64_nat a 9223372036854775807 ha (by omega)
  have e : a &&& 9223372036854775807 = a % 9223372036854775808 := Nat.and_two_pow_sub_one_eq_mod a 63
  rw [e] at h
  exact h
theorem ofw_0 (n q : Nat) : (ofw n 0 q : Int) = dg 18446744073709551616 n q := by
  unfold ofw dg
  rw [if_pos (by omega), Nat.pow_mul, show (256 : Nat) ^ 8 = 18446744073709551616 by decide]
theorem top_row (n : Nat) (hn : n < 115792089237316195423570985008687907853269984665640564039457584007913129639936) (h : Nat → Int) (hh : ∀ q, q < 4 → h q = dg 18446744073709551616 n q) (t : Nat) (ht : h 3 = t) : row .u64 4 (upd h 3 ((t % 9223372036854775808 : Nat) : Int)) = e4 (n % 57896044618658097711785492504343953926634992332820282019728792003956564819968) := by
  have h3 : (t : Int) = ((n / 18446744073709551616 ^ 3 % 18446744073709551616 : Nat) : Int) := by rw [← ht, hh 3 (by omega)]; rfl
  have hp : (18446744073709551616 : Nat) ^ 3 = 6277101735386680763835789423207666416102355444464034512896 := by decide +kernel
  refine row_ext _ _ _ _ (sumf_uniq 18446744073709551616 _ _ 4 (fun i hi => ?_) ?_)
  · by_cases e : i = 3
    · subst e; rw [upd_same]; omega
    · rw [upd_ne _ _ _ _ e, hh i hi]; exact ⟨w_nn n i, w_lt n i⟩
  · show sumf 18446744073709551616 _ 4 = _
    rw [sumf_upd _ _ _ _ _ (by omega), sumf_congr _ h (dg 18446744073709551616 n) 4 hh, sum4 n hn, ht]
    have hp3 : (18446744073709551616 : Int) ^ 3 = 6277101735386680763835789423207666416102355444464034512896 := by decide +kernel
    rw [hp] at h3
    rw [hp3]
    omega

set_option maxRecDepth 100000 in
set_option maxHeartbeats 2000000 in
theorem of_any (n : Nat) (hn : n < 115792089237316195423570985008687907853269984665640564039457584007913129639936) (w : World) :
    Calls Try.prog 30 #[.agg (k32 n)] w fun e w' => e = .returned (.agg (e4 (n % 57896044618658097711785492504343953926634992332820282019728792003956564819968))) ∧ Below w.heap.size w w' := by
  have HT := Lib.hid (top_row n hn); clear hn
  obtain ⟨r, hr⟩ : ∃ r, r = n % 57896044618658097711785492504343953926634992332820282019728792003956564819968 := ⟨_, rfl⟩
  rw [← hr] at HT ⊢
  clear hr
  go_enter Try.func30, Try.ntmps30
  go_wp2_with fail
  go_loopw [3] (fun i wr => ∃ (k : Nat) (h : Nat → Int), k ≤ 32 ∧ i = .int .i64 ((k : Int) - 1) ∧ (∀ q, q < 4 → h q = (ofw n k q : Int)) ∧ Has wr w.heap.size (k32 n) 24 ∧ Has wr (w.heap.size + 1) (row .u64 4 h) 36 ∧ Below w.heap.size w wr) (fun i _ => (intOf i + 1).toNat)
  case atStart =>
    refine ⟨32, fun _ => 0, by omega, rfl, fun q hq => ?_, (Has.new _ _ _).alloc _, Has.new1 _ _ _ _, below_2 _ _ _⟩
    unfold ofw
    rw [if_neg (by omega), if_pos (by omega)]; rfl
  case round =>
    obtain ⟨k, h, hk, rfl, hh, m0, m1, hB⟩ := hrel
    have M0 := Lib.hid m0; clear m0
    have M1 := Lib.hid m1; clear m1
    have Hh := Lib.hid hh; clear hh
    by_cases hlt : 0 < k
    · obtain ⟨k, rfl⟩ : ∃ j, k = j + 1 := ⟨k - 1, by omega⟩
      rw [show (((k + 1 : Nat) : Int) - 1) = (k : Int) by omega]
      have h1 := M0.out.cell k (by omega)
      have h2 := M1.out.cell (k / 8) (by omega)
      have hfz := M1.out.frozen (k / 8)
      rw [Hh.out (k / 8) (by omega)] at h2
      have x1 := ofw_lt n k
      have hst := ofw_step n k
      obtain ⟨x, hx⟩ : ∃ x, x = ofw n (k + 1) (k / 8) := ⟨_, rfl⟩
      obtain ⟨y, hy⟩ : ∃ y, y = n / 256 ^ k % 256 := ⟨_, rfl⟩
      have y1 : y < 256 := by rw [hy]; exact Nat.mod_lt _ (by decide)
      rw [show dg 256 n k = ((n / 256 ^ k % 256 : Nat) : Int) from rfl, ← hy] at h1
      rw [← hx] at h2 x1 hst
      rw [← hy] at hst
      have hor := or_byte x y x1 y1
      have k2 : (0 : Int) ≤ (k : Int) / 8 := by omega
      have k3 : (k : Int) / 8 < 4 := by omega
      have Hx := Lib.hid hx; clear hx
      have Hy := Lib.hid hy; clear hy
      have Hst := Lib.hid hst; clear hst
      go_wp2_with fail
      go_region
      go_wp2_with fail
      go_roundw
      case measure => simp [intOf]
      case rel =>
        refine ⟨k, upd h (k / 8) ((x : Int) * 256 + y), by omega, rfl, ?_, M0.out.other _ _ (by simp <;> omega), M1.out.set _ _, (hB.setCell (by simp <;> omega) _).drew⟩
        intro q hq
        by_cases e : q = k / 8
        · subst e; rw [upd_same, Hst.out, Int.natCast_add, Int.natCast_mul]; rfl
        · rw [upd_ne _ _ _ _ e, ← ofw_other n k q e]; exact Hh.out q hq
    · obtain rfl : k = 0 := by omega
      have h2 := M1.out.cell 3 (by omega)
      have hfz := M1.out.frozen 3
      have h0 : ∀ q, q < 4 → h q = dg 18446744073709551616 n q := fun q hq => (Hh.out q hq).trans (ofw_0 n q)
      have z1 : ofw n 0 3 < 18446744073709551616 := by
        have := w_lt n 3
        rw [← ofw_0] at this; omega
      rw [Hh.out 3 (by omega)] at h2
      obtain ⟨t, ht⟩ : ∃ t, t = ofw n 0 3 := ⟨_, rfl⟩
      rw [← ht] at h2 z1
      have hand := and_top t z1
      have hrow := HT.out h h0 t (by rw [ht]; exact Hh.out 3 (by omega))
      have m1 := M1.out.set 3 ((t % 9223372036854775808 : Nat) : Int)
      rw [hrow] at m1
      have hB2 := hB.setCell (p := ⟨w.heap.size + 1, 3, none⟩) (show w.heap.size ≤ w.heap.size + 1 by omega) (.int .u64 ((t % 9223372036854775808 : Nat) : Int))
      obtain ⟨u, hu⟩ : ∃ u : Int, u = ((t % 9223372036854775808 : Nat) : Int) := ⟨_, rfl⟩
      rw [← hu] at hand m1 hB2
      have HBB := Lib.hid (below_setRow hB2 (w.heap.size + 1) (e4 r) (by omega))
      have Q1 := Lib.hid m1; clear m1
      have Q2 := Lib.hid (Q1.out.setRow (e4 r))
      clear hrow hu ht h0 hB2 M1
      go_wp2_with (first | (refine wpList_load_row rfl 36 _ rfl (w.heap.size + 1) rfl 36 (e4 r) (0, 0) _ Q1.out Try.underlying36 rfl (by rw [e4_size]; kernel_rfl) ?_) | (refine wpList_store_row rfl 36 _ _ rfl (w.heap.size + 1) _ rfl rfl 36 (e4 r) Q1.out (by rw [e4_size]; kernel_rfl) rfl (row_one _ _ _) ?_))
      exact bodyPost_ret (v := .agg (e4 r)) (results_cell_row (t := 36) (by rfl) _ _ (w.heap.size + 1) _ _ _ rfl Q2.out Try.underlying36 rfl (by rw [e4_size]; kernel_rfl)) rfl ⟨rfl, HBB.out⟩
end Go.Proofs.Ytjiagjonlcadiaa
end
section
namespace Go.Proofs.Ytjiagjonlcadiaa
open Go.RowKit Go.Lib

set_option maxRecDepth 100000 in
set_option maxHeartbeats 1000000 in
theorem fold_0 (n : Nat) (w : World) : Calls Try.prog 77 #[.agg (e4 n), .int .u64 (0 : Nat)] w fun e w' => e = .returned (.agg (e4 n)) ∧ Below w.heap.size w w' := by
  go_enter Try.func77, Try.ntmps77
  have M0 := Lib.hid ((Has.new w (e4 n) 36).alloc (.cells (#[.int .u64 0, .int .u64 0, .int .u64 0, .int .u64 0] : Array Value) 36))
  obtain ⟨Z, hZ, mz⟩ := HasN.new1 w (.cells (e4 n) 36) (#[.int .u64 0, .int .u64 0, .int .u64 0, .int .u64 0] : Array Value) 36 4 rfl
  have HBB := Lib.hid (below_setRow (below_2 w (.cells (e4 n) 36) (.cells (#[.int .u64 0, .int .u64 0, .int .u64 0, .int .u64 0] : Array Value) 36)) (w.heap.size + 1) (e4 n) (by omega))
  have Mz := Lib.hid mz; clear mz
  have HZ := Lib.hid hZ; clear hZ
  go_wp2_with fail
  refine wp_loop_rounds 1 ?_
  rw [rounds_succ]
  go_wp2_with (first | (refine wpList_load_row rfl 36 _ rfl (w.heap.size) rfl 36 (e4 n) (0, 0) _ M0.out Try.underlying36 rfl (by rw [e4_size]; kernel_rfl) ?_) | (refine wpList_store_row rfl 36 _ _ rfl (w.heap.size + 1) _ rfl rfl 36 Z Mz.out (by rw [e4_size]; kernel_rfl) (HZ.out.trans (e4_size _).symm) (row_one _ _ _) ?_))
  exact bodyPost_ret (v := .agg (e4 n)) (results_cell_row (t := 36) (by rfl) _ _ (w.heap.size + 1) _ _ _ rfl (Mz.out.setRow _) Try.underlying36 rfl (by rw [e4_size]; kernel_rfl)) rfl ⟨rfl, HBB.out⟩

set_option maxRecDepth 100000 in
set_option maxHeartbeats 2000000 in
theorem plus_exact (a b : Nat) (ha : a < 115792089237316195423570985008687907853269984665640564039457584007913129639936) (hb : b < 115792089237316195423570985008687907853269984665640564039457584007913129639936) (hab : a + b < 115792089237316195423570985008687907853269984665640564039457584007913129639936) (w : World) :
    Calls Try.prog 37 #[.agg (e4 a), .agg (e4 b)] w fun e w' => e = .returned (.agg (e4 (a + b))) ∧ Below w.heap.size w w' := by
  obtain ⟨r, hr⟩ : ∃ r, r = a + b := ⟨_, rfl⟩
  rw [← hr] at hab ⊢
  have Ha := Lib.hid ha; clear ha
  have Hb := Lib.hid hb; clear hb
  have Hr := Lib.hid hr; clear hr
  have Hab := Lib.hid hab; clear hab
  go_enter Try.func37, Try.ntmps37
  go_wp2_with fail
  go_loopw [5, 7] (fun s i wr => ∃ (k : Nat) (h : Nat → Int) (c : Int), k ≤ 4 ∧ i = .int .i64 k ∧ s = .int .u64 c ∧ 0 ≤ c ∧ c ≤ 1 ∧ (∀ j, j < k → 0 ≤ h j ∧ h j < 18446744073709551616) ∧ (∀ j, k ≤ j → h j = dg 18446744073709551616 a j) ∧ sumf 18446744073709551616 h k + c * 18446744073709551616 ^ k = sumf 18446744073709551616 (dg 18446744073709551616 a) k + sumf 18446744073709551616 (dg 18446744073709551616 b) k ∧ Has wr w.heap.size (row .u64 4 h) 36 ∧ Has wr (w.heap.size + 1) (e4 b) 36 ∧ HasN wr (w.heap.size + 1 + 1) 4 36 ∧ Below w.heap.size w wr) (fun _ i _ => 4 - (intOf i).toNat)
  case atStart => exact ⟨0, dg 18446744073709551616 a, 0, by omega, rfl, rfl, by omega, by omega, fun j hj => by omega, fun _ _ => rfl, by simp [sumf], ((Has.new _ _ _).alloc _).alloc _, (Has.new1 _ _ _ _).alloc _, HasN.new2 _ _ _ _ _ 4 rfl, below_3 _ _ _ _⟩
  case round =>
    obtain ⟨k, h, c, hk, rfl, rfl, c0, c1, hd, hg, hs, m0, m1, m2, hB⟩ := hrel
    have M0 := Lib.hid m0; clear m0
    have M1 := Lib.hid m1; clear m1
    have M2 := Lib.hid m2; clear m2
    have Hd := Lib.hid hd; clear hd
    have Hg := Lib.hid hg; clear hg
    have Hs := Lib.hid hs; clear hs
    by_cases hlt : k < 4
    · have h1 := M0.out.cell k hlt
      have h2 := M1.out.cell k hlt
      have hfz := M0.out.frozen k
      have x0 := w_nn a k
      have x1 := w_lt a k
      have y0 := w_nn b k
      have y1 := w_lt b k
      rw [Hg.out k (Nat.le_refl _)] at h1
      obtain ⟨x, hx⟩ : ∃ x, x = dg 18446744073709551616 a k := ⟨_, rfl⟩
      obtain ⟨y, hy⟩ : ∃ y, y = dg 18446744073709551616 b k := ⟨_, rfl⟩
      rw [← hx] at h1 x0 x1
      rw [← hy] at h2 y0 y1
      have ka := fun w => add64 x y c x0 y0 c0 c1 w
      obtain ⟨s, hss⟩ : ∃ s, s = (x + y + c) % 18446744073709551616 := ⟨_, rfl⟩
      obtain ⟨d, hdd⟩ : ∃ d, d = (x + y + c) / 18446744073709551616 := ⟨_, rfl⟩
      rw [← hss, ← hdd] at ka
      have s0 : 0 ≤ s := by omega
      have s1 : s < 18446744073709551616 := by omega
      have d0 : 0 ≤ d := by omega
      have d1 : d ≤ 1 := by omega
      have hsum : x + y + c = s + 18446744073709551616 * d := by omega
      have Hx := Lib.hid hx; clear hx
      have Hy := Lib.hid hy; clear hy
      have Hsum := Lib.hid hsum; clear hsum
      clear hss hdd
      go_wp2_with fail
      go_region
      go_wp2_with fail
      go_roundw
      case measure => simp [intOf]; omega
      case rel =>
        refine ⟨k + 1, upd h k s, d, by omega, by go_num, rfl, d0, d1, ?_, ?_, ?_, M0.out.set _ _, M1.out.other _ _ (by simp <;> omega), M2.out.other _ _ (by simp <;> omega), by first | exact hB.setCell (Nat.le_refl _) _ | exact (hB.setCell (Nat.le_refl _) _).drew⟩
        · intro j hj
          by_cases e : j = k
          · subst e; rw [upd_same]; exact ⟨s0, s1⟩
          · rw [upd_ne _ _ _ _ e]; exact Hd.out j (by omega)
        · intro j hj; rw [upd_ne _ _ _ _ (by omega)]; exact Hg.out j (by omega)
        · simp only [sumf]
          rw [sumf_upd_above _ _ _ _ _ (Nat.le_refl _), upd_same, ← Hx.out, ← Hy.out, Int.pow_succ]
          exact add_step _ _ _ _ _ _ _ _ _ Hs.out Hsum.out
    · obtain rfl : k = 4 := by omega
      obtain ⟨A', hA', hrow, hsum⟩ := e4_of h Hd.out
      have hs4 := Hs.out
      rw [hsum, sum4 a Ha.out, sum4 b Hb.out, p64_4] at hs4
      have m0 := M0.out
      rw [hrow] at m0
      obtain ⟨o', rfl⟩ := Int.eq_ofNat_of_zero_le c0
      have ho : o' = 0 := by have := Hr.out; have := Hab.out; omega
      subst ho
      have hf := fun w => fold_0 A' w
      rw [show A' = r by rw [Hr.out]; omega] at hf m0
      have M0 := Lib.hid m0; clear m0
      have Hf := Lib.hid hf; clear hf
      clear hrow hsum hs4 hA'
      go_wp2_with (refine wpList_load_row rfl 36 _ rfl (w.heap.size) rfl 36 (e4 r) (0, 0) _ M0.out Try.underlying36 rfl (by rw [e4_size]; kernel_rfl) ?_)
      refine (Hf.out _).mono ?_
      rintro e w1 ⟨rfl, b1⟩
      obtain ⟨Z, hZ, mz⟩ := M2.out.call b1
      have HBB := Lib.hid (below_setRow (held_next hB b1) (w.heap.size + 1 + 1) (e4 r) (by omega))
      have Mz := Lib.hid mz; clear mz
      have HZ := Lib.hid hZ; clear hZ
      clear b1
      go_wp2_with (refine wpList_store_row rfl 36 _ _ rfl (w.heap.size + 1 + 1) _ rfl rfl 36 Z Mz.out (by rw [e4_size]; kernel_rfl) (HZ.out.trans (e4_size _).symm) (row_one _ _ _) ?_)
      exact bodyPost_ret (v := .agg (e4 r)) (results_cell_row (t := 36) (by rfl) _ _ (w.heap.size + 1 + 1) _ _ _ rfl (Mz.out.setRow _) Try.underlying36 rfl (by rw [e4_size]; kernel_rfl)) rfl ⟨rfl, HBB.out⟩
end Go.Proofs.Ytjiagjonlcadiaa
end
section
namespace Go.Proofs.Ytjiagjonlcadiaa
open Go.RowKit Go.Lib

theorem e4_small (x : Nat) (hx : x < 18446744073709551616) : (#[.int .u64 (x : Int), .int .u64 0, .int .u64 0, .int .u64 0] : Array Value) = e4 x := by
  have : e4 x = row .u64 4 (fun i => if i = 0 then (x : Int) else 0) := row_ext _ _ _ _ fun i hi => by
    unfold dg
    split
    · rename_i h; subst h; rw [Nat.pow_zero, Nat.div_one, Nat.mod_eq_of_lt hx]
    · rw [Nat.div_eq_of_lt (Nat.lt_of_lt_of_le hx (by
        have : 18446744073709551616 ^ 1 ≤ 18446744073709551616 ^ i := Nat.pow_le_pow_right (by decide) (by omega)
        simpa using this))]; rfl
  rw [this]; rfl
theorem top_word (A : Nat) (hA : A < 115792089237316195423570985008687907853269984665640564039457584007913129639936) : ∃ t : Nat, dg 18446744073709551616 A 3 = t ∧ t < 18446744073709551616 ∧ t / 9223372036854775808 = A / 57896044618658097711785492504343953926634992332820282019728792003956564819968 := by
  refine ⟨A / 18446744073709551616 ^ 3 % 18446744073709551616, rfl, Nat.mod_lt _ (by decide), ?_⟩
  have hp : (18446744073709551616 : Nat) ^ 3 = 6277101735386680763835789423207666416102355444464034512896 := by decide +kernel
  rw [hp]; omega
theorem least_round (A : Nat) : (A % 57896044618658097711785492504343953926634992332820282019728792003956564819968 + 19 * (A / 57896044618658097711785492504343953926634992332820282019728792003956564819968)) % PP = A % PP := by
  have e : 57896044618658097711785492504343953926634992332820282019728792003956564819968 = 19 + PP := by decide +kernel
  have h1 := Nat.div_add_mod A 57896044618658097711785492504343953926634992332820282019728792003956564819968
  generalize A % 57896044618658097711785492504343953926634992332820282019728792003956564819968 = x at *
  generalize A / 57896044618658097711785492504343953926634992332820282019728792003956564819968 = q at *
  rw [← h1, e, Nat.add_mul, show 19 * q + PP * q + x = x + 19 * q + PP * q by omega, Nat.add_mul_mod_self_left]

set_option maxRecDepth 100000 in
set_option maxHeartbeats 4000000 in
theorem fleast_any (n : Nat) (hn : n < 115792089237316195423570985008687907853269984665640564039457584007913129639936) (w : World) :
    Calls Try.prog 79 #[.agg (e4 n)] w fun e w' => e = .returned (.agg (e4 (n % PP))) ∧ Below w.heap.size w w' := by
  obtain ⟨r, hr⟩ : ∃ r, r = n % PP := ⟨_, rfl⟩
  rw [← hr]
  have Hn := Lib.hid hn; clear hn
  have Hr := Lib.hid hr; clear hr
  go_enter Try.func79, Try.ntmps79
  go_wp2_with fail
  go_loopw [5] (fun i wr => ∃ k A : Nat, k ≤ 2 ∧ i = .int .i64 k ∧ A % PP = r ∧ A < 115792089237316195423570985008687907853269984665640564039457584007913129639936 ∧ (1 ≤ k → A < 57896044618658097711785492504343953926634992332820282019728792003956564819987) ∧ (2 ≤ k → A < 57896044618658097711785492504343953926634992332820282019728792003956564819968) ∧ Has wr w.heap.size (e4 A) 36 ∧ HasN wr (w.heap.size + 1) 4 36 ∧ Below w.heap.size w wr) (fun i _ => 2 - (intOf i).toNat)
  case atStart => exact ⟨0, n, by omega, rfl, Hr.out.symm, Hn.out, fun h => by omega, fun h => by omega, (Has.new _ _ _).alloc _, HasN.new1 _ _ _ _ 4 rfl, below_2 _ _ _⟩
  case round =>
    obtain ⟨k, A, hk, rfl, hA, hA2, hk1, hk2, m0, m1, hB⟩ := hrel
    have M0 := Lib.hid m0; clear m0
    have M1 := Lib.hid m1; clear m1
    have HA := Lib.hid hA; clear hA
    have Hk1 := Lib.hid hk1; clear hk1
    have Hk2 := Lib.hid hk2; clear hk2
    by_cases hlt : k < 2
    · have h2 := M0.out.cell 3 (by omega)
      have hfz := M0.out.frozen 3
      obtain ⟨t, ht, htb, hov⟩ := top_word A hA2
      rw [ht] at h2
      have hand := and_top t htb
      have hrow := top_row A hA2 (dg 18446744073709551616 A) (fun _ _ => rfl) t ht
      obtain ⟨u, hu⟩ : ∃ u : Int, u = ((t % 9223372036854775808 : Nat) : Int) := ⟨_, rfl⟩
      rw [← hu] at hand hrow
      have m2 := M0.out.set 3 u
      rw [hrow] at m2
      have hlr := least_round A
      obtain ⟨B, hBe⟩ : ∃ B, B = A % 57896044618658097711785492504343953926634992332820282019728792003956564819968 := ⟨_, rfl⟩
      obtain ⟨o, ho⟩ : ∃ o, o = A / 57896044618658097711785492504343953926634992332820282019728792003956564819968 := ⟨_, rfl⟩
      rw [← hBe] at m2 hlr
      rw [← ho] at hlr hov
      have ho1 : o ≤ 1 := by omega
      have hB255 : B < 57896044618658097711785492504343953926634992332820282019728792003956564819968 := by omega
      have hshr : ((t : Nat) : Int) / 9223372036854775808 = (o : Int) := by omega
      have hpe := fun w => plus_exact B (19 * o) (by omega) (by omega) (by omega) w
      have hbl := e4_small (19 * o) (by omega)
      rw [Int.natCast_mul] at hbl
      have hbl' : (#[.int .u64 (19 * (o : Int)), .int .u64 0, .int .u64 0, .int .u64 0] : Array Value) = e4 (19 * o) := hbl
      obtain ⟨q, hq⟩ : ∃ q, q = 19 * o := ⟨_, rfl⟩
      obtain ⟨A', hA'⟩ : ∃ x, x = B + q := ⟨_, rfl⟩
      rw [← hq] at hpe hbl' hlr
      rw [← hA'] at hpe hlr
      have hk1' : 1 ≤ k + 1 → A' < 57896044618658097711785492504343953926634992332820282019728792003956564819987 := fun _ => by omega
      have hk2' : 2 ≤ k + 1 → A' < 57896044618658097711785492504343953926634992332820282019728792003956564819968 := fun hh => by have := Hk1.out (by omega); omega
      have hA2' : A' < 115792089237316195423570985008687907853269984665640564039457584007913129639936 := by omega
      have Hmod := Lib.hid (show A' % PP = r by rw [hlr]; exact HA.out)
      have M1' := Lib.hid (M1.out.other ⟨w.heap.size, 3, none⟩ (.int .u64 u) (by simp <;> omega))
      have HB' := Lib.hid (hB.setCell (p := ⟨w.heap.size, 3, none⟩) (Nat.le_refl _) (.int .u64 u))
      have Hpe := Lib.hid hpe; clear hpe
      have Hk1' := Lib.hid hk1'; clear hk1'
      have Hk2' := Lib.hid hk2'; clear hk2'
      have HA2' := Lib.hid hA2'; clear hA2'
      have M2 := Lib.hid m2; clear m2
      clear hA' hq hbl ho hBe hlr hrow hu hov M0 M1 hA2 hB
      go_wp2_with (refine wpList_load_row rfl 36 _ rfl (w.heap.size) rfl 36 (e4 B) (0, 0) _ M2.out Try.underlying36 rfl (by rw [e4_size]; kernel_rfl) ?_)
      refine (Hpe.out _).mono ?_
      rintro e w1 ⟨rfl, b1⟩
      have n1 := M1'.out.call b1
      obtain ⟨Z, hZ, mz⟩ := (M2.out.toN (e4_size _)).call b1
      have hB2 := held_next HB'.out b1
      have q0 := mz.setRow (e4 A')
      have q1 := n1.setRow_other w.heap.size (e4 A') (by omega)
      have hB3 := below_setRow hB2 w.heap.size (e4 A') (Nat.le_refl _)
      clear n1 b1 hB2
      have Mz := Lib.hid mz; clear mz
      have HZ := Lib.hid hZ; clear hZ
      have Q0 := Lib.hid q0; clear q0
      have Q1 := Lib.hid q1; clear q1
      have HB3 := Lib.hid hB3; clear hB3
      go_wp2_with (refine wpList_store_row rfl 36 _ _ rfl (w.heap.size) _ rfl rfl 36 Z Mz.out (by rw [e4_size]; kernel_rfl) (HZ.out.trans (e4_size _).symm) (row_one _ _ _) ?_)
      go_roundw
      case measure => simp [intOf]; omega
      case rel => exact ⟨k + 1, A', by omega, by go_num, Hmod.out, HA2'.out, Hk1'.out, Hk2'.out, Q0.out, Q1.out, HB3.out⟩
    · obtain rfl : k = 2 := by omega
      have h255 := Hk2.out (by omega)
      have hpe := fun w => plus_exact A 19 hA2 (by omega) (by omega) w
      have hbl := e4_small 19 (by omega)
      have hbl' : (#[.int .u64 19, .int .u64 0, .int .u64 0, .int .u64 0] : Array Value) = e4 19 := hbl
      obtain ⟨b, hb⟩ : ∃ b, b = A + 19 := ⟨_, rfl⟩
      rw [← hb] at hpe
      have hb256 : b < 115792089237316195423570985008687907853269984665640564039457584007913129639936 := by omega
      have Hpe := Lib.hid hpe; clear hpe
      have Hb := Lib.hid hb; clear hb
      clear hbl
      go_wp2_with (refine wpList_load_row rfl 36 _ rfl (w.heap.size) rfl 36 (e4 A) (0, 0) _ M0.out Try.underlying36 rfl (by rw [e4_size]; kernel_rfl) ?_)
      refine (Hpe.out _).mono ?_
      rintro e w1 ⟨rfl, b1⟩
      have n0 := (M0.out.call b1).alloc (.cells (#[.int .u64 0, .int .u64 0, .int .u64 0, .int .u64 0] : Array Value) 36)
      have n1 := (M1.out.call b1).alloc (.cells (#[.int .u64 0, .int .u64 0, .int .u64 0, .int .u64 0] : Array Value) 36)
      have hB2 := (held_next hB b1).alloc (held_next hB b1).size (.cells (#[.int .u64 0, .int .u64 0, .int .u64 0, .int .u64 0] : Array Value) 36)
      have hl1 := (M1.out.call b1).lt
      obtain ⟨Z, hZ, mz⟩ := HasN.new w1 (#[.int .u64 0, .int .u64 0, .int .u64 0, .int .u64 0] : Array Value) 36 4 rfl
      have q0 := n0.setRow_other w1.heap.size (e4 b) (by omega)
      have q1 := n1.setRow_other w1.heap.size (e4 b) (by omega)
      have q2 := mz.setRow (e4 b)
      have hB3 := below_setRow hB2 w1.heap.size (e4 b) (held_next hB b1).size
      have h2 := q2.cell 3 (by omega)
      have hfz := q2.frozen 3
      obtain ⟨t, ht, htb, hov⟩ := top_word b hb256
      rw [ht] at h2
      by_cases hc : b < 57896044618658097711785492504343953926634992332820282019728792003956564819968
      · have hz : (t : Int) / 9223372036854775808 = 0 := by omega
        have hfin : A = r := by
          have := HA.out
          rw [Nat.mod_eq_of_lt (by rw [PP_val]; have := Hb.out; omega)] at this
          exact this
        obtain ⟨Z', hZ', mz'⟩ := q1
        have HBB := Lib.hid (below_setRow hB3 (w.heap.size + 1) (e4 A) (by omega))
        have Mz := Lib.hid mz; clear mz
        have HZ := Lib.hid hZ; clear hZ
        have Q0 := Lib.hid q0; clear q0
        have Q2 := Lib.hid q2; clear q2
        have Mz' := Lib.hid mz'; clear mz'
        have HZ' := Lib.hid hZ'; clear hZ'
        have Hfin := Lib.hid hfin; clear hfin
        have Ht := Lib.hid ht; clear ht
        clear n0 n1 hB2 hB3 b1 M0 M1 hc hov
        go_wp2_with (first | (refine wpList_store_row rfl 36 _ _ rfl (w1.heap.size) _ rfl rfl 36 Z Mz.out (by rw [e4_size]; kernel_rfl) (HZ.out.trans (e4_size _).symm) (row_one _ _ _) ?_) | (refine wpList_load_row rfl 36 _ rfl (w.heap.size) rfl 36 (e4 A) (0, 0) _ Q0.out Try.underlying36 rfl (by rw [e4_size]; kernel_rfl) ?_) | (refine wpList_store_row rfl 36 _ _ rfl (w.heap.size + 1) _ rfl rfl 36 Z' Mz'.out (by rw [e4_size]; kernel_rfl) (HZ'.out.trans (e4_size _).symm) (row_one _ _ _) ?_))
        exact bodyPost_ret (v := .agg (e4 A)) (results_cell_row (t := 36) (by rfl) _ _ (w.heap.size + 1) _ _ _ rfl (Mz'.out.setRow _) Try.underlying36 rfl (by rw [e4_size]; kernel_rfl)) rfl ⟨by rw [Hfin.out], HBB.out⟩
      · have hz : (t : Int) / 9223372036854775808 = 1 := by omega
        have hand := and_top t htb
        have hrow := top_row b hb256 (dg 18446744073709551616 b) (fun _ _ => rfl) t ht
        obtain ⟨u, hu⟩ : ∃ u : Int, u = ((t % 9223372036854775808 : Nat) : Int) := ⟨_, rfl⟩
        rw [← hu] at hand hrow
        have q3 := q2.set 3 u
        rw [hrow] at q3
        have hfin : b % 57896044618658097711785492504343953926634992332820282019728792003956564819968 = r := by
          rw [← HA.out, Nat.mod_eq_sub_mod (show PP ≤ A by rw [PP_val]; have := Hb.out; omega), Nat.mod_eq_of_lt (show A - PP < PP by rw [PP_val]; omega), PP_val]
          have := Hb.out; omega
        rw [hfin] at q3
        obtain ⟨Z', hZ', mz'⟩ := q1.other ⟨w1.heap.size, 3, none⟩ (.int .u64 u) (by simp <;> omega)
        have HBB := Lib.hid (below_setRow (hB3.setCell (p := ⟨w1.heap.size, 3, none⟩) (held_next hB b1).size (.int .u64 u)) (w.heap.size + 1) (e4 r) (by omega))
        have Mz := Lib.hid mz; clear mz
        have HZ := Lib.hid hZ; clear hZ
        have Q2 := Lib.hid q2; clear q2
        have Q3 := Lib.hid q3; clear q3
        have Mz' := Lib.hid mz'; clear mz'
        have HZ' := Lib.hid hZ'; clear hZ'
        have Hfin := Lib.hid hfin; clear hfin
        have Ht := Lib.hid ht; clear ht
        clear n0 n1 hB2 hB3 b1 M0 M1 hc hov hu hrow
        go_wp2_with (first | (refine wpList_store_row rfl 36 _ _ rfl (w1.heap.size) _ rfl rfl 36 Z Mz.out (by rw [e4_size]; kernel_rfl) (HZ.out.trans (e4_size _).symm) (row_one _ _ _) ?_) | (refine wpList_load_row rfl 36 _ rfl (w1.heap.size) rfl 36 (e4 r) (0, 0) _ Q3.out Try.underlying36 rfl (by rw [e4_size]; kernel_rfl) ?_) | (refine wpList_store_row rfl 36 _ _ rfl (w.heap.size + 1) _ rfl rfl 36 Z' Mz'.out (by rw [e4_size]; kernel_rfl) (HZ'.out.trans (e4_size _).symm) (row_one _ _ _) ?_))
        exact bodyPost_ret (v := .agg (e4 r)) (results_cell_row (t := 36) (by rfl) _ _ (w.heap.size + 1) _ _ _ rfl (Mz'.out.setRow _) Try.underlying36 rfl (by rw [e4_size]; kernel_rfl)) rfl ⟨rfl, HBB.out⟩
end Go.Proofs.Ytjiagjonlcadiaa
end
section
namespace Go.Proofs.Ytjiagjonlcadiaa
open Go.RowKit Go.Lib

theorem key_byte (n k : Nat) : (n / 18446744073709551616 ^ (k / 8) % 18446744073709551616) / 2 ^ (8 * (k % 8)) % 256 = n / 256 ^ k % 256 := by
  have e : 256 ^ k = 18446744073709551616 ^ (k / 8) * 256 ^ (k % 8) := by
    rw [show (18446744073709551616 : Nat) = 256 ^ 8 by decide, ← Nat.pow_mul, ← Nat.pow_add, Nat.div_add_mod]
  rw [e, ← Nat.div_div_eq_div_mul]
  generalize n / 18446744073709551616 ^ (k / 8) = q
  have hr : k % 8 < 8 := Nat.mod_lt _ (by decide)
  generalize k % 8 = r at *
  rcases (show r = 0 ∨ r = 1 ∨ r = 2 ∨ r = 3 ∨ r = 4 ∨ r = 5 ∨ r = 6 ∨ r = 7 by omega) with rfl | rfl | rfl | rfl | rfl | rfl | rfl | rfl <;> simp <;> omega
theorem key_byte_int (n k : Nat) (x : Int) (hx : x = dg 18446744073709551616 n (k / 8)) : x / 2 ^ (8 * (k % 8)) % 256 = dg 256 n k := by
  rw [hx, dg, dg, ← key_byte n k]
  generalize n / 18446744073709551616 ^ (k / 8) % 18446744073709551616 = q
  generalize 8 * (k % 8) = m
  rw [Int.natCast_emod, Int.natCast_ediv, Int.natCast_pow]
  rfl
theorem and_one (a : Nat) (ha : a < 18446744073709551616) : bits .and .u64 (a : Int) 1 = ((a % 2 : Nat) : Int) := by
  have h := bits_and_u64_nat a 1 ha (by omega)
  have e : a &&& 1 = a % 2 := Nat.and_two_pow_sub_one_eq_mod a 1
  rw [e] at h
  exact h
theorem div_pow_bd64 (x : Int) (k : Nat) (h0 : 0 ≤ x) (h1 : x < 18446744073709551616) : 0 ≤ x / 2 ^ k ∧ x / 2 ^ k < 18446744073709551616 := by
  have hp : (0 : Int) < 2 ^ k := Int.pow_pos (by decide)
  refine ⟨Int.ediv_nonneg h0 (Int.le_of_lt hp), ?_⟩
  have := Int.ediv_le_self (2 ^ k) h0
  omega
theorem e4_eq (x y : Nat) (hx : x < 115792089237316195423570985008687907853269984665640564039457584007913129639936) (hy : y < 115792089237316195423570985008687907853269984665640564039457584007913129639936) (w : World) : (Op.equalIn 10000 36 (.agg (e4 x)) (.agg (e4 y))).run Try.prog w = .ok (decide (x = y)) w := by
  rw [← eqr_dg 18446744073709551616 4 x y (by rw [n64_4]; exact hx) (by rw [n64_4]; exact hy)]
  exact run_equalIn_row w 9998 36 34 4 .u64 Try.underlying36 Try.underlying34 sz_u64 _ _
theorem modPP_lt (n : Nat) : n % PP < 115792089237316195423570985008687907853269984665640564039457584007913129639936 := Nat.lt_trans (Nat.mod_lt _ PP_pos) (by decide +kernel)

set_option maxRecDepth 100000 in
set_option maxHeartbeats 2000000 in
theorem key_any (n : Nat) (hn : n < 115792089237316195423570985008687907853269984665640564039457584007913129639936) (w : World) :
    Calls Try.prog 73 #[.agg (e4 n)] w fun e w' => e = .returned (.agg (k32 (n % PP))) ∧ Below w.heap.size w w' := by
  have hl := fun w => fleast_any n hn w
  obtain ⟨r, hr⟩ : ∃ r, r = n % PP := ⟨_, rfl⟩
  rw [← hr] at hl ⊢
  have Hl := Lib.hid hl; clear hl
  clear hr hn
  go_enter Try.func73, Try.ntmps73
  have M0 := Lib.hid ((Has.new w (e4 n) 36).alloc (.cells (#[.int .u8 0, .int .u8 0, .int .u8 0, .int .u8 0, .int .u8 0, .int .u8 0, .int .u8 0, .int .u8 0, .int .u8 0, .int .u8 0, .int .u8 0, .int .u8 0, .int .u8 0, .int .u8 0, .int .u8 0, .int .u8 0, .int .u8 0, .int .u8 0, .int .u8 0, .int .u8 0, .int .u8 0, .int .u8 0, .int .u8 0, .int .u8 0, .int .u8 0, .int .u8 0, .int .u8 0, .int .u8 0, .int .u8 0, .int .u8 0, .int .u8 0, .int .u8 0] : Array Value) 24))
  go_wp2_with (refine wpList_load_row rfl 36 _ rfl (w.heap.size) rfl 36 (e4 n) (0, 0) _ M0.out Try.underlying36 rfl (by rw [e4_size]; kernel_rfl) ?_)
  refine (Hl.out _).mono ?_
  rintro e w1 ⟨rfl, b1⟩
  obtain ⟨Z, hZ, mz⟩ := (M0.out.toN (e4_size _)).call b1
  have m1 := (Has.new1 w (.cells (e4 n) 36) (#[.int .u8 0, .int .u8 0, .int .u8 0, .int .u8 0, .int .u8 0, .int .u8 0, .int .u8 0, .int .u8 0, .int .u8 0, .int .u8 0, .int .u8 0, .int .u8 0, .int .u8 0, .int .u8 0, .int .u8 0, .int .u8 0, .int .u8 0, .int .u8 0, .int .u8 0, .int .u8 0, .int .u8 0, .int .u8 0, .int .u8 0, .int .u8 0, .int .u8 0, .int .u8 0, .int .u8 0, .int .u8 0, .int .u8 0, .int .u8 0, .int .u8 0, .int .u8 0] : Array Value) 24).call b1
  have q0 := mz.setRow (e4 r)
  have q1 := m1.setRow_other w.heap.size (e4 r) (by omega)
  have hB := below_setRow (held_next (below_2 w (.cells (e4 n) 36) (.cells (#[.int .u8 0, .int .u8 0, .int .u8 0, .int .u8 0, .int .u8 0, .int .u8 0, .int .u8 0, .int .u8 0, .int .u8 0, .int .u8 0, .int .u8 0, .int .u8 0, .int .u8 0, .int .u8 0, .int .u8 0, .int .u8 0, .int .u8 0, .int .u8 0, .int .u8 0, .int .u8 0, .int .u8 0, .int .u8 0, .int .u8 0, .int .u8 0, .int .u8 0, .int .u8 0, .int .u8 0, .int .u8 0, .int .u8 0, .int .u8 0, .int .u8 0, .int .u8 0] : Array Value) 24)) b1) w.heap.size (e4 r) (Nat.le_refl _)
  clear M0 m1 b1
  have Mz := Lib.hid mz; clear mz
  have HZ := Lib.hid hZ; clear hZ
  have Q0 := Lib.hid q0; clear q0
  have Q1 := Lib.hid q1; clear q1
  have HB := Lib.hid hB; clear hB
  go_wp2_with (refine wpList_store_row rfl 36 _ _ rfl (w.heap.size) _ rfl rfl 36 Z Mz.out (by rw [e4_size]; kernel_rfl) (HZ.out.trans (e4_size _).symm) (row_one _ _ _) ?_)
  clear Mz HZ
  go_loopw [6] (fun i wr => ∃ (k : Nat) (h : Nat → Int), k ≤ 32 ∧ i = .int .i64 k ∧ (∀ j, j < k → h j = dg 256 r j) ∧ Has wr w.heap.size (e4 r) 36 ∧ Has wr (w.heap.size + 1) (row .u8 32 h) 24 ∧ Below w.heap.size w wr) (fun i _ => 32 - (intOf i).toNat)
  case atStart => exact ⟨0, fun _ => 0, by omega, rfl, fun j hj => by omega, Q0.out, Q1.out, HB.out⟩
  case round =>
    clear Q0 Q1 HB
    obtain ⟨k, h, hk, rfl, hh, m0, m1, hB⟩ := hrel
    have M0 := Lib.hid m0; clear m0
    have M1 := Lib.hid m1; clear m1
    have Hh := Lib.hid hh; clear hh
    by_cases hlt : k < 32
    · have h1 := M0.out.cell (k / 8) (by omega)
      have h2 := M1.out.cell k hlt
      have hfz := M1.out.frozen k
      have x0 := w_nn r (k / 8)
      have x1 := w_lt r (k / 8)
      obtain ⟨x, hx⟩ : ∃ x, x = dg 18446744073709551616 r (k / 8) := ⟨_, rfl⟩
      rw [← hx] at h1 x0 x1
      have hkb := key_byte_int r k x hx
      obtain ⟨s0, s1⟩ := div_pow_bd64 x (8 * (k % 8)) x0 x1
      have k2 : (0 : Int) ≤ (k : Int) / 8 := by omega
      have k3 : (k : Int) / 8 < 4 := by omega
      have k4 : (0 : Int) ≤ 8 * ((k : Int) % 8) := by omega
      have k5 : 8 * ((k : Int) % 8) < 64 := by omega
      have Hx := Lib.hid hx; clear hx
      have Hkb := Lib.hid hkb; clear hkb
      go_wp2_with fail
      go_roundw
      case measure => simp [intOf]; omega
      case rel =>
        refine ⟨k + 1, upd h k (x / 2 ^ (8 * (k % 8)) % 256), by omega, by go_num, ?_, M0.out.other _ _ (by simp <;> omega), M1.out.set _ _, hB.setCell (by simp <;> omega) _⟩
        intro j hj
        by_cases e : j = k
        · subst e; rw [upd_same]; exact Hkb.out
        · rw [upd_ne _ _ _ _ e]; exact Hh.out j (by omega)
    · obtain rfl : k = 32 := by omega
      have m1 := M1.out
      rw [show row .u8 32 h = k32 r from row_ext _ _ _ _ Hh.out] at m1
      have P1 := Lib.hid m1; clear m1 M1
      have P2 := Lib.hid (P1.out.setRow (k32 r))
      go_wp2_with (first | (refine wpList_load_row rfl 24 _ rfl (w.heap.size + 1) rfl 24 (k32 r) (0, 0) _ P1.out Try.underlying24 rfl (by rw [k32_size]; kernel_rfl) ?_) | (refine wpList_store_row rfl 24 _ _ rfl (w.heap.size + 1) _ rfl rfl 24 (k32 r) P1.out (by rw [k32_size]; kernel_rfl) rfl (row_one _ _ _) ?_))
      exact bodyPost_ret (v := .agg (k32 r)) (results_cell_row (t := 24) (by rfl) _ _ (w.heap.size + 1) _ _ _ rfl P2.out Try.underlying24 rfl (by rw [k32_size]; kernel_rfl)) rfl ⟨rfl, below_setRow hB _ _ (by omega)⟩

set_option maxRecDepth 100000 in
set_option maxHeartbeats 2000000 in
theorem is_any (a b : Nat) (ha : a < 115792089237316195423570985008687907853269984665640564039457584007913129639936) (hb : b < 115792089237316195423570985008687907853269984665640564039457584007913129639936) (w : World) :
    Calls Try.prog 41 #[.agg (e4 a), .agg (e4 b)] w fun e w' => e = .returned (.bool (decide (a % PP = b % PP))) ∧ Below w.heap.size w w' := by
  have hl1 := fun w => fleast_any a ha w
  have hl2 := fun w => fleast_any b hb w
  have heq := fun w => e4_eq (a % PP) (b % PP) (modPP_lt a) (modPP_lt b) w
  obtain ⟨x, hx⟩ : ∃ r, r = a % PP := ⟨_, rfl⟩
  obtain ⟨y, hy⟩ : ∃ r, r = b % PP := ⟨_, rfl⟩
  rw [← hx] at hl1 heq ⊢
  rw [← hy] at hl2 heq ⊢
  have Hl1 := Lib.hid hl1; clear hl1
  have Hl2 := Lib.hid hl2; clear hl2
  obtain ⟨d, hd⟩ : ∃ d, d = decide (x = y) := ⟨_, rfl⟩
  rw [← hd] at heq ⊢
  clear hx hy ha hb hd
  go_enter Try.func41, Try.ntmps41
  go_wp2_with fail
  refine wp_region_noPanic ?_
  refine wp_region_below 99 (by kernel_rfl) ?_
  intro W0 hW0
  have M0 := Lib.hid (show Has W0 w.heap.size (e4 a) 36 by rw [hW0]; exact (Has.new _ _ _).alloc _)
  have M1 := Lib.hid (show Has W0 (w.heap.size + 1) (e4 b) 36 by rw [hW0]; exact Has.new1 _ _ _ _)
  have HB := Lib.hid (show Below w.heap.size w W0 by rw [hW0]; exact below_2 _ _ _)
  clear hW0
  refine wpBut_take (i := 0) rfl (by kernel_rfl) (by kernel_rfl) (by kernel_rfl) (by kernel_rfl) (by kernel_rfl) (fun _ _ _ h => h) (yieldsIf_load_row (by rfl) 36 _ rfl (w.heap.size) rfl 36 (e4 a) (fun _ h => M0.out.below h M0.out.lt) Try.underlying36 rfl (by rw [e4_size]; kernel_rfl)) ((Below.refl _ _).drew) ?_
  (try simp only [Act.put]); (try simp only [List.setIfInBounds_toArray])
  refine wpBut_take (i := 2) rfl (by kernel_rfl) (by kernel_rfl) (by kernel_rfl) (by kernel_rfl) (by kernel_rfl) (fun _ _ _ h => h) (yieldsIf_load_row (by rfl) 36 _ rfl (w.heap.size + 1) rfl 36 (e4 b) (fun _ h => M1.out.below h M1.out.lt) Try.underlying36 rfl (by rw [e4_size]; kernel_rfl)) ((Below.refl _ _).drew) ?_
  (try simp only [Act.put]); (try simp only [List.setIfInBounds_toArray])
  refine wpBut_one (i := 1) (by kernel_rfl) rfl (fun K hK => ?_)
  go_simp
  go_at_call 79
  refine (Hl1.out _).mono ?_
  rintro e wW01 ⟨rfl, hb⟩
  have hkW01 := held_next (Below.refl _ _).drew hb
  refine hK.out _ _ (fun _ => hkW01) ?_
  clear hK K hb
  refine wpBut_one (i := 3) (by kernel_rfl) rfl (fun K hK => ?_)
  go_simp
  go_at_call 79
  refine (Hl2.out _).mono ?_
  rintro e wW02 ⟨rfl, hb⟩
  have hkW02 := held_next hkW01 hb
  refine hK.out _ _ (fun _ => hkW02) ?_
  clear hK K hb
  refine wpBut_one (i := 4) (by kernel_rfl) rfl (fun K hK => ?_)
  go_simp
  refine hK.out _ _ (fun _ => hkW02) ?_
  clear hK K
  refine wpBut_one (i := 5) (by kernel_rfl) rfl (fun K hK => ?_)
  go_simp
  refine hK.out _ _ (fun _ => hkW02) ?_
  clear hK K
  refine wpBut_done (by kernel_rfl) (NoPanic.normal ?_)
  go_wp2_with fail
  go_ret
  exact ⟨rfl, held_next HB.out hkW02⟩

set_option maxRecDepth 100000 in
set_option maxHeartbeats 2000000 in
theorem even_any (a : Nat) (ha : a < 115792089237316195423570985008687907853269984665640564039457584007913129639936) (w : World) :
    Calls Try.prog 36 #[.agg (e4 a)] w fun e w' => e = .returned (.bool (a % PP % 2 == 0)) ∧ Below w.heap.size w w' := by
  have hl1 := fun w => fleast_any a ha w
  have hlt := modPP_lt a
  obtain ⟨x, hx⟩ : ∃ r, r = a % PP := ⟨_, rfl⟩
  rw [← hx] at hl1 hlt ⊢
  have hix := fun w => run_index_row w 36 34 4 .u64 Try.underlying36 Try.underlying34 sz_u64 (dg 18446744073709551616 x) 0 (by omega)
  rw [show row .u64 4 (dg 18446744073709551616 x) = e4 x from rfl] at hix
  have hd0 : dg 18446744073709551616 x 0 = ((x % 18446744073709551616 : Nat) : Int) := by unfold dg; rw [Nat.pow_zero, Nat.div_one]
  rw [hd0] at hix
  have hand := and_one (x % 18446744073709551616) (Nat.mod_lt _ (by decide))
  have hm : x % 18446744073709551616 % 2 = x % 2 := by omega
  rw [hm] at hand
  obtain ⟨y, hy⟩ : ∃ y, y = x % 18446744073709551616 := ⟨_, rfl⟩
  rw [← hy] at hix hand
  rw [show (((0 : Nat) : Int)) = 0 from rfl] at hix
  have M0 := Lib.hid (Has.new w (e4 a) 36)
  have hres : ((((x % 2 : Nat) : Int)) == 0) = (x % 2 == 0) := by
    rcases Nat.mod_two_eq_zero_or_one x with e | e <;> rw [e] <;> rfl
  obtain ⟨z, hz⟩ : ∃ z : Int, z = ((x % 2 : Nat) : Int) := ⟨_, rfl⟩
  rw [← hz] at hand hres
  rw [← hres]
  have Hl1 := Lib.hid hl1; clear hl1
  have Hz := Lib.hid hz; clear hz
  have Hres := Lib.hid hres; clear hres
  clear hx hlt hd0 hm hy ha
  go_enter Try.func36, Try.ntmps36
  go_wp2_with (refine wpList_load_row rfl 36 _ rfl (w.heap.size) rfl 36 (e4 a) (0, 0) _ M0.out Try.underlying36 rfl (by rw [e4_size]; kernel_rfl) ?_)
  refine (Hl1.out _).mono ?_
  rintro e w1 ⟨rfl, b1⟩
  have HB := Lib.hid (held_next (below_1 w (.cells (e4 a) 36)) b1); clear b1
  go_wp2_with fail
  go_ret
  exact ⟨rfl, HB.out⟩
end Go.Proofs.Ytjiagjonlcadiaa
end
section
namespace Go.Proofs.Ytjiagjonlcadiaa
open Go.RowKit Go.Lib

set_option maxRecDepth 100000 in
set_option maxHeartbeats 1000000 in
theorem fint_nn (n : Nat) (hn : n < 9223372036854775808) (w : World) :
    Calls Try.prog 34 #[.int .i64 n] w fun e w' => e = .returned (.agg (e4 n)) ∧ Below w.heap.size w w' := by
  have hbl := e4_small n (by omega)
  obtain ⟨Z, hZ, mz⟩ := HasN.new w (#[.int .u64 0, .int .u64 0, .int .u64 0, .int .u64 0] : Array Value) 36 4 rfl
  have Mz := Lib.hid mz; clear mz
  have HZ := Lib.hid hZ; clear hZ
  go_enter Try.func34, Try.ntmps34
  go_wp2_with (refine wpList_store_row rfl 36 _ _ rfl (w.heap.size) _ rfl rfl 36 Z Mz.out (by rw [e4_size]; kernel_rfl) (HZ.out.trans (e4_size _).symm) (row_one _ _ _) ?_)
  exact bodyPost_ret (v := .agg (e4 n)) (results_cell_row (t := 36) (by rfl) _ _ (w.heap.size) _ _ _ rfl (Mz.out.setRow _) Try.underlying36 rfl (by rw [e4_size]; kernel_rfl)) rfl ⟨rfl, below_setRow (below_1 _ _) _ _ (Nat.le_refl _)⟩

theorem e4_zero : (#[.int .u64 0, .int .u64 0, .int .u64 0, .int .u64 0] : Array Value) = e4 0 := e4_small 0 (by omega)
theorem e4_one : (#[.int .u64 1, .int .u64 0, .int .u64 0, .int .u64 0] : Array Value) = e4 1 := e4_small 1 (by omega)

set_option maxRecDepth 100000 in
set_option maxHeartbeats 1000000 in
theorem fint_neg (n : Int) (hn : n < 0) (hn2 : -9223372036854775808 ≤ n) (w : World) :
    Calls Try.prog 34 #[.int .i64 n] w (ElP (n % (PP : Int)).toNat w) := by
  obtain ⟨m, hm⟩ : ∃ m : Nat, -(n + 1) = (m : Int) := ⟨(-(n + 1)).toNat, by omega⟩
  have hres := int_num n m (by omega)
  obtain ⟨r, hr⟩ : ∃ r, r = (n % (PP : Int)).toNat := ⟨_, rfl⟩
  rw [← hr] at hres ⊢
  have hm0 : m < 9223372036854775808 := by omega
  have hmin1 := fun w => minus_any 0 m (by omega) (by omega) w
  rw [show 0 % PP = 0 from Nat.zero_mod _] at hmin1
  obtain ⟨y, hy⟩ : ∃ y, y = (0 + (PP - m % PP)) % PP := ⟨_, rfl⟩
  rw [← hy] at hmin1 hres
  have hmin2 := fun m1 h w => minus_any m1 1 h (by omega) w
  have hbl := e4_small m (by omega)
  have hb0 := e4_zero
  have hb1 := e4_one
  have Hmin1 := Lib.hid hmin1; clear hmin1
  have Hmin2 := Lib.hid hmin2; clear hmin2
  have Hres := Lib.hid hres; clear hres
  have Hm := Lib.hid hm; clear hm
  have Hbl := Lib.hid hbl; clear hbl
  have Hb0 := Lib.hid hb0; clear hb0
  have Hb1 := Lib.hid hb1; clear hb1
  clear hr hy hm0
  have hd : decide (0 ≤ n) = false := by simp; omega
  go_enter Try.func34, Try.ntmps34
  go_wp2_with fail
  rw [Hm.out, Hbl.out, Hb0.out]
  refine (Hmin1.out _).mono ?_
  rintro e w1 ⟨m1, hm1, hm1r, rfl, b1⟩
  have B1 := Lib.hid b1; clear b1
  have Hm1 := Lib.hid hm1; clear hm1
  have Hm1r := Lib.hid hm1r; clear hm1r
  go_wp2_with fail
  refine (Hmin2.out m1 Hm1.out _).mono ?_
  rintro e w2 ⟨m2, hm2, hm2r, rfl, b2⟩
  obtain ⟨Z, hZ, mz⟩ := ((HasN.new w (e4 0) 36 4 (e4_size _)).call B1.out).call b2
  have HBB := Lib.hid (below_setRow (held_next (held_next (below_1 w (.cells (e4 0) 36)) B1.out) b2) w.heap.size (e4 m2) (Nat.le_refl _))
  have hfin : m2 % PP = r := by rw [hm2r, Hm1r.out]; exact Hres.out
  have Mz := Lib.hid mz; clear mz
  have HZ := Lib.hid hZ; clear hZ
  have Hm2 := Lib.hid hm2; clear hm2
  have Hfin := Lib.hid hfin; clear hfin
  clear hm2r b2
  go_wp2_with (refine wpList_store_row rfl 36 _ _ rfl (w.heap.size) _ rfl rfl 36 Z Mz.out (by rw [e4_size]; kernel_rfl) (HZ.out.trans (e4_size _).symm) (row_one _ _ _) ?_)
  exact bodyPost_ret (v := .agg (e4 m2)) (results_cell_row (t := 36) (by rfl) _ _ (w.heap.size) _ _ _ rfl (Mz.out.setRow _) Try.underlying36 rfl (by rw [e4_size]; kernel_rfl)) rfl ⟨m2, Hm2.out, Hfin.out, rfl, HBB.out⟩

theorem sq_next (A a k : Nat) (h : A % PP = pwm a (2 ^ k)) : A * A % PP = pwm a (2 ^ (k + 1)) := by
  unfold pwm at *
  rw [Nat.mul_mod, h, ← Nat.mul_mod, ← Nat.pow_add, Nat.pow_succ, Nat.mul_two]

set_option maxRecDepth 100000 in
set_option maxHeartbeats 1000000 in
theorem squares_any (a n : Nat) (ha : a < 115792089237316195423570985008687907853269984665640564039457584007913129639936) (hn : n ≤ 1000) (w : World) :
    Calls Try.prog 83 #[.agg (e4 a), .int .i64 n] w (ElP (pwm a (2 ^ n)) w) := by
  have ht := fun x h w => times_any x x h h w
  have h0 : a % PP = pwm a (2 ^ 0) := by unfold pwm; rw [Nat.pow_zero, Nat.pow_one]
  have Ht := Lib.hid ht; clear ht
  have Ha := Lib.hid ha; clear ha
  have H0 := Lib.hid h0; clear h0
  go_enter Try.func83, Try.ntmps83
  go_wp2_with fail
  go_loopw [6] (fun i wr => ∃ k A : Nat, k ≤ n ∧ i = .int .i64 k ∧ A < 115792089237316195423570985008687907853269984665640564039457584007913129639936 ∧ A % PP = pwm a (2 ^ k) ∧ Has wr w.heap.size (e4 A) 36 ∧ HasN wr (w.heap.size + 1) 4 36 ∧ Below w.heap.size w wr) (fun i _ => n - (intOf i).toNat)
  case atStart => exact ⟨0, a, by omega, rfl, Ha.out, H0.out, (Has.new _ _ _).alloc _, HasN.new1 _ _ _ _ 4 rfl, below_2 _ _ _⟩
  case round =>
    obtain ⟨k, A, hk, rfl, hA, hm, m0, m1, hB⟩ := hrel
    have M0 := Lib.hid m0; clear m0
    have M1 := Lib.hid m1; clear m1
    have HA := Lib.hid hA; clear hA
    have Hm := Lib.hid hm; clear hm
    by_cases hlt : k < n
    · go_wp2_with (refine wpList_load_row rfl 36 _ rfl (w.heap.size) rfl 36 (e4 A) (0, 0) _ M0.out Try.underlying36 rfl (by rw [e4_size]; kernel_rfl) ?_)
      refine (Ht.out A HA.out _).mono ?_
      rintro e w1 ⟨m, hm', hmr, rfl, b1⟩
      obtain ⟨Z, hZ, mz⟩ := (M0.out.toN (e4_size _)).call b1
      have q0 := mz.setRow (e4 m)
      have q1 := (M1.out.call b1).setRow_other w.heap.size (e4 m) (by omega)
      have hB2 := below_setRow (held_next hB b1) w.heap.size (e4 m) (Nat.le_refl _)
      have hmr2 := hmr.trans (sq_next A a k Hm.out)
      have Mz := Lib.hid mz; clear mz
      have HZ := Lib.hid hZ; clear hZ
      have Q0 := Lib.hid q0; clear q0
      have Q1 := Lib.hid q1; clear q1
      have HB2 := Lib.hid hB2; clear hB2
      have Hm' := Lib.hid hm'; clear hm'
      have Hmr2 := Lib.hid hmr2; clear hmr2
      clear b1 hmr M0 M1
      go_wp2_with (refine wpList_store_row rfl 36 _ _ rfl (w.heap.size) _ rfl rfl 36 Z Mz.out (by rw [e4_size]; kernel_rfl) (HZ.out.trans (e4_size _).symm) (row_one _ _ _) ?_)
      go_roundw
      case measure => simp [intOf]; omega
      case rel => exact ⟨k + 1, m, by omega, by go_num, Hm'.out, Hmr2.out, Q0.out, Q1.out, HB2.out⟩
    · obtain rfl : k = n := by omega
      obtain ⟨Z, hZ, mz⟩ := M1.out
      have HBB := Lib.hid (below_setRow hB (w.heap.size + 1) (e4 A) (by omega))
      have Mz := Lib.hid mz; clear mz
      have HZ := Lib.hid hZ; clear hZ
      go_wp2_with (first | (refine wpList_load_row rfl 36 _ rfl (w.heap.size) rfl 36 (e4 A) (0, 0) _ M0.out Try.underlying36 rfl (by rw [e4_size]; kernel_rfl) ?_) | (refine wpList_store_row rfl 36 _ _ rfl (w.heap.size + 1) _ rfl rfl 36 Z Mz.out (by rw [e4_size]; kernel_rfl) (HZ.out.trans (e4_size _).symm) (row_one _ _ _) ?_))
      exact bodyPost_ret (v := .agg (e4 A)) (results_cell_row (t := 36) (by rfl) _ _ (w.heap.size + 1) _ _ _ rfl (Mz.out.setRow _) Try.underlying36 rfl (by rw [e4_size]; kernel_rfl)) rfl ⟨A, HA.out, Hm.out, rfl, HBB.out⟩

theorem pwm_mul (a e A B : Nat) (hA : A % PP = pwm a e) (hB : B % PP = a % PP) : A * B % PP = pwm a (e + 1) := by
  unfold pwm at *
  rw [Nat.mul_mod, hA, hB, ← Nat.mul_mod, Nat.pow_succ]

set_option maxRecDepth 100000 in
set_option maxHeartbeats 1000000 in
theorem grow_any (a n : Nat) (ha : a < 115792089237316195423570985008687907853269984665640564039457584007913129639936) (hn : n ≤ 1000) (w : World) :
    Calls Try.prog 110 #[.agg (e4 a), .int .i64 n] w (ElP (pwm a (2 ^ n + 1)) w) := by
  have hs := fun w => squares_any a n ha hn w
  have ht := fun x h w => times_any x a h ha w
  have Hs := Lib.hid hs; clear hs
  have Ht := Lib.hid ht; clear ht
  clear ha hn
  go_enter Try.func110, Try.ntmps110
  go_wp2_with fail
  refine wp_region_noPanic ?_
  refine wp_region_below 5 (by kernel_rfl) ?_
  intro W0 hW0
  have M0 := Lib.hid (show Has W0 w.heap.size (e4 a) 36 by rw [hW0]; exact (Has.new _ _ _).alloc _)
  have M1 := Lib.hid (show HasN W0 (w.heap.size + 1) 4 36 by rw [hW0]; exact HasN.new1 _ _ _ _ 4 rfl)
  have HB := Lib.hid (show Below w.heap.size w W0 by rw [hW0]; exact below_2 _ _ _)
  clear hW0
  refine wpBut_take (i := 0) rfl (by kernel_rfl) (by kernel_rfl) (by kernel_rfl) (by kernel_rfl) (by kernel_rfl) (fun _ _ _ h => h) (yieldsIf_load_row (by rfl) 36 _ rfl (w.heap.size) rfl 36 (e4 a) (fun _ h => M0.out.below h M0.out.lt) Try.underlying36 rfl (by rw [e4_size]; kernel_rfl)) ((Below.refl _ _).drew) ?_
  (try simp only [Act.put]); (try simp only [List.setIfInBounds_toArray])
  refine wpBut_take (i := 1) (v := ?vv1) rfl (by kernel_rfl) (by kernel_rfl) (by kernel_rfl) (by kernel_rfl) (by kernel_rfl) (fun _ _ _ h => h) (Or.inl ⟨by rfl, ?hy1⟩) ((Below.refl _ _).drew) ?rest1
  case hy1 => (intro _ _; go_simp; try with_reducible rfl)
  (try simp only [Act.put]); (try simp only [List.setIfInBounds_toArray])
  refine wpBut_take (i := 3) rfl (by kernel_rfl) (by kernel_rfl) (by kernel_rfl) (by kernel_rfl) (by kernel_rfl) (fun _ _ _ h => h) (yieldsIf_load_row (by rfl) 36 _ rfl (w.heap.size) rfl 36 (e4 a) (fun _ h => M0.out.below h M0.out.lt) Try.underlying36 rfl (by rw [e4_size]; kernel_rfl)) ((Below.refl _ _).drew) ?_
  (try simp only [Act.put]); (try simp only [List.setIfInBounds_toArray])
  refine wpBut_one (i := 2) (by kernel_rfl) rfl (fun K hK => ?_)
  go_simp
  go_at_call 83
  refine (Hs.out _).mono ?_
  rintro e wW01 ⟨m1, hm1, hm1r, rfl, hb⟩
  have hkW01 := held_next (Below.refl _ _).drew hb
  refine hK.out _ _ (fun _ => hkW01) ?_
  clear hK K hb
  refine wpBut_one (i := 4) (by kernel_rfl) rfl (fun K hK => ?_)
  go_simp
  go_at_call 31
  refine (Ht.out m1 hm1 _).mono ?_
  rintro e wW02 ⟨m2, hm2, hm2r, rfl, hb⟩
  have hkW02 := held_next hkW01 hb
  refine hK.out _ _ (fun _ => hkW02) ?_
  clear hK K hb
  obtain ⟨Z, hZ, mZ⟩ := M1.out.below hkW02 M1.out.lt
  have MZ := Lib.hid mZ; clear mZ
  have HZ := Lib.hid hZ; clear hZ
  refine wpBut_one (i := 5) (by kernel_rfl) rfl (fun K hK => ?_)
  rw [if_pos (by rfl)]
  refine wp_store_row 36 _ _ rfl (w.heap.size + 1) _ rfl rfl 36 Z MZ.out (by rw [e4_size]; kernel_rfl) (HZ.out.trans (e4_size _).symm) (row_one _ _ _) ?_
  refine hK.out _ _ (fun h => (h rfl).elim) ?_
  clear hK K
  (try simp only [Act.put]); (try simp only [List.setIfInBounds_toArray])
  refine wpBut_done (by kernel_rfl) (NoPanic.normal ?_)
  have hfin := hm2r.trans (pwm_mul a _ m1 a hm1r rfl)
  have HBB := Lib.hid (below_setRow (held_next HB.out hkW02) (w.heap.size + 1) (e4 m2) (by omega))
  have Hfin := Lib.hid hfin; clear hfin
  go_wp2_with fail
  exact bodyPost_ret (v := .agg (e4 m2)) (results_cell_row (t := 36) (by rfl) _ _ (w.heap.size + 1) _ _ _ rfl (MZ.out.setRow _) Try.underlying36 rfl (by rw [e4_size]; kernel_rfl)) rfl ⟨m2, hm2, Hfin.out, rfl, HBB.out⟩
end Go.Proofs.Ytjiagjonlcadiaa
end
section
namespace Go.Proofs.Ytjiagjonlcadiaa

theorem pwm_add (a e f : Nat) : pwm a (e + f) = pwm a e * pwm a f % PP := by
  unfold pwm; rw [Nat.pow_add, Nat.mul_mod]
theorem pwm_succ (a e : Nat) : pwm a (e + 1) = pwm a e * a % PP := by
  unfold pwm; rw [Nat.pow_succ, Nat.mod_mul_mod]
theorem pwm_pwm (a e f : Nat) : pwm (pwm a e) f = pwm a (e * f) := by
  unfold pwm; rw [← Nat.pow_mod, Nat.pow_mul]
theorem pwm_mod (a e : Nat) : pwm (a % PP) e = pwm a e := by
  unfold pwm; rw [← Nat.pow_mod]
theorem pwm_mulbase (a b e : Nat) : pwm (a * b) e = pwm a e * pwm b e % PP := by
  unfold pwm; rw [Nat.mul_pow, Nat.mul_mod]
theorem pwm_one (a : Nat) : pwm a 1 = a % PP := by unfold pwm; rw [Nat.pow_one]
theorem gen_PP : Nm.Gen PP 2 := Nm.gen_P
theorem pr_PP : Nm.Pr PP := Nm.pr_P
theorem little (a : Nat) (ha : a % PP ≠ 0) : pwm a (PP - 1) = 1 := gen_PP.little a ha
theorem over_undoes (u v : Nat) (hv : v % PP ≠ 0) : u * pwm v (PP - 2) % PP * v % PP = u % PP := by
  have h : pwm v (PP - 2) * v % PP = 1 := by
    rw [← pwm_succ]
    have e : PP - 2 + 1 = PP - 1 := by have := PP_val; omega
    rw [e]; exact little v hv
  rw [Nat.mod_mul_mod, Nat.mul_assoc, ← Nat.mul_mod_mod, h, Nat.mul_one]
theorem no_zero (a b : Nat) (h : a * b % PP = 0) : a % PP = 0 ∨ b % PP = 0 := by
  rcases pr_PP.2 a b (Nat.dvd_of_mod_eq_zero h) with h | h
  · exact .inl (Nat.mod_eq_zero_of_dvd h)
  · exact .inr (Nat.mod_eq_zero_of_dvd h)
/-- equal squares: equal, or one and the other's opposite -/
theorem sq_eq (x y : Nat) (hx : x < PP) (hy : y < PP) (h : x * x % PP = y * y % PP) : x = y ∨ (x + y) % PP = 0 := by
  by_cases hxy : x ≤ y
  · obtain ⟨d, rfl⟩ : ∃ d, y = x + d := ⟨y - x, by omega⟩
    have e : (x + d) * (x + d) = x * x + d * (x + (x + d)) := by grind
    rw [e] at h
    have h2 : d * (x + (x + d)) % PP = 0 := by
      have h1 := Nat.div_add_mod (x * x) PP
      have h3 := Nat.div_add_mod (x * x + d * (x + (x + d))) PP
      rw [← h] at h3
      have : PP * ((x * x + d * (x + (x + d))) / PP) = PP * (x * x / PP) + d * (x + (x + d)) := by omega
      have hd : PP ∣ d * (x + (x + d)) := by
        refine (Nat.dvd_add_right (Nat.dvd_mul_right PP (x * x / PP))).1 ?_
        rw [← this]; exact Nat.dvd_mul_right _ _
      exact Nat.mod_eq_zero_of_dvd hd
    rcases no_zero _ _ h2 with h4 | h4
    · rw [Nat.mod_eq_of_lt (by omega)] at h4; left; omega
    · exact .inr h4
  · obtain ⟨d, rfl⟩ : ∃ d, x = y + d := ⟨x - y, by omega⟩
    have e : (y + d) * (y + d) = y * y + d * (y + (y + d)) := by grind
    rw [e] at h
    have h2 : d * (y + (y + d)) % PP = 0 := by
      have h1 := Nat.div_add_mod (y * y) PP
      have h3 := Nat.div_add_mod (y * y + d * (y + (y + d))) PP
      rw [h] at h3
      have : PP * ((y * y + d * (y + (y + d))) / PP) = PP * (y * y / PP) + d * (y + (y + d)) := by omega
      have hd : PP ∣ d * (y + (y + d)) := by
        refine (Nat.dvd_add_right (Nat.dvd_mul_right PP (y * y / PP))).1 ?_
        rw [← this]; exact Nat.dvd_mul_right _ _
      exact Nat.mod_eq_zero_of_dvd hd
    rcases no_zero _ _ h2 with h4 | h4
    · rw [Nat.mod_eq_of_lt (by omega)] at h4; left; omega
    · right; rw [Nat.add_comm]; exact h4
theorem mo_add_l (x x' y : Nat) (h : x % PP = x' % PP) : (x + y) % PP = (x' + y) % PP := by rw [Nat.add_mod, h, ← Nat.add_mod]
theorem mo_mul_l (x x' y : Nat) (h : x % PP = x' % PP) : (x * y) % PP = (x' * y) % PP := by rw [Nat.mul_mod, h, ← Nat.mul_mod]
end Go.Proofs.Ytjiagjonlcadiaa
end
section
namespace Go
variable {P : Program} {md : Region.Mode} {ops : Array Oper} {Q : Exit → Act → World → Prop} {f : Nat} {S : World → Prop}

abbrev tt : Bool := true
abbrev ff : Bool := false
/-- function g has a body, and is entered by a call -/
def Enters (P : Program) (g : FuncId) : Prop := ∃ fn : Func, P.funcs[g]? = some fn ∧ (fn.name == "runtime.NumGoroutine") = false ∧ fn.body.isNone = false

theorem run_call_enter {a : Act} {o : Oper} {c : Call} {x : Operand} {g : FuncId} {vl : List Value} (ho : o.op = .call c) (hc : c.callee = .value x) (hx : a.eval x = .func (.func g) #[] #[]) (he : Enters P g)
    (hv : c.args.toList.map a.eval = vl) (w : World) : (execOp a.eval o).run P w = .ok (.enter g vl.toArray) w := by
  obtain ⟨fn, h1, h2, h3⟩ := he
  have h4 : fn.name ≠ "runtime.NumGoroutine" := by simpa using h2
  have h5 : c.args.map a.eval = vl.toArray := by apply Array.ext'; rw [← hv]; simp
  unfold execOp
  simp only [ho, resolve, hc, hx, h5]
  cases hb : fn.body with
  | none => rw [hb] at h3; cases h3
  | some code => simp [Deferred.ofValue, invoke, callFunc, h1, h4, hb]

theorem wp_call_to {a : Act} {o : Oper} {c : Call} {x : Operand} {g : FuncId} {vl : List Value} {w : World} {K : Act → World → Prop} {R : Ending → World → Prop} (ho : o.op = .call c) (hc : c.callee = .value x) (hx : a.eval x = .func (.func g) #[] #[]) (he : Enters P g)
    (hv : c.args.toList.map a.eval = vl) (h : Calls P g vl.toArray w R) (hR : ∀ e w', R e w' → ∃ v, e = .returned v ∧ K (a.put o.dst v) w') : o.wp P a w K Q := by
  unfold Oper.wp
  rw [run_call_enter ho hc hx he hv w, Oper.upon_enter]
  refine h.mono fun e w' hr => ?_
  obtain ⟨v, rfl, hK⟩ := hR e w' hr
  exact hK

/-- operation i, and what comes behind it -/
def BStep (P : Program) (md : Region.Mode) (ops : Array Oper) (Q : Exit → Act → World → Prop) (f : Nat) (S : World → Prop) (n : Nat) (listed : Array Bool) (a : Act) (w : World) (i : Nat) : Prop :=
  wpOp P ops Q i (fun a' w' => (i ≠ f → S w') ∧ wpBut P md ops Q f S n (listed.setIfInBounds i true) a' w') a w
variable {n : Nat} {listed : Array Bool} {a : Act} {w : World}
theorem wpBut_r1 {i : Nat} (hr : Region.ready md ops listed = [i]) (h : BStep P md ops Q f S n listed a w i) : wpBut P md ops Q f S (n + 1) listed a w := by
  refine ⟨fun h0 => (by rw [h0] at hr; cases hr), fun j hj => ?_⟩
  rw [hr] at hj
  obtain rfl : j = i := by simpa using hj
  exact h
theorem wpBut_r2 {i j : Nat} (hr : Region.ready md ops listed = [i, j]) (h1 : BStep P md ops Q f S n listed a w i) (h2 : BStep P md ops Q f S n listed a w j) : wpBut P md ops Q f S (n + 1) listed a w := by
  refine ⟨fun h0 => (by rw [h0] at hr; cases hr), fun k hk => ?_⟩
  rw [hr] at hk
  simp only [List.mem_cons, List.not_mem_nil, or_false] at hk
  rcases hk with rfl | rfl
  · exact h1
  · exact h2
theorem wpBut_r3 {i j l : Nat} (hr : Region.ready md ops listed = [i, j, l]) (h1 : BStep P md ops Q f S n listed a w i) (h2 : BStep P md ops Q f S n listed a w j) (h3 : BStep P md ops Q f S n listed a w l) : wpBut P md ops Q f S (n + 1) listed a w := by
  refine ⟨fun h0 => (by rw [h0] at hr; cases hr), fun k hk => ?_⟩
  rw [hr] at hk
  simp only [List.mem_cons, List.not_mem_nil, or_false] at hk
  rcases hk with rfl | rfl | rfl
  · exact h1
  · exact h2
  · exact h3
theorem wpBut_r4 {i j l m : Nat} (hr : Region.ready md ops listed = [i, j, l, m]) (h1 : BStep P md ops Q f S n listed a w i) (h2 : BStep P md ops Q f S n listed a w j) (h3 : BStep P md ops Q f S n listed a w l) (h4 : BStep P md ops Q f S n listed a w m) : wpBut P md ops Q f S (n + 1) listed a w := by
  refine ⟨fun h0 => (by rw [h0] at hr; cases hr), fun k hk => ?_⟩
  rw [hr] at hk
  simp only [List.mem_cons, List.not_mem_nil, or_false] at hk
  rcases hk with rfl | rfl | rfl | rfl
  · exact h1
  · exact h2
  · exact h3
  · exact h4
theorem bstep_wp {i : Nat} {oi : Oper} (hi : ops[i]? = some oi) (hw : Region.wanted oi (yielded ops a.tmps) = true)
    (h : Oper.wp P oi a w (fun a' w' => (i ≠ f → S w') ∧ wpBut P md ops Q f S n (listed.setIfInBounds i true) a' w') Q) : BStep P md ops Q f S n listed a w i :=
  wpOp_step hi fun K hK => by rw [if_pos hw]; exact Oper.wp_mono hK h
theorem bstep_call {i : Nat} {oi : Oper} {c : Call} {x : Operand} {g : FuncId} {vl : List Value} {R : Ending → World → Prop} (hi : ops[i]? = some oi) (hw : Region.wanted oi (yielded ops a.tmps) = true) (ho : oi.op = .call c) (hc : c.callee = .value x)
    (hx : a.eval x = .func (.func g) #[] #[]) (he : Enters P g) (hv : c.args.toList.map a.eval = vl) (h : Calls P g vl.toArray w R)
    (hR : ∀ e w', R e w' → ∃ v, e = .returned v ∧ (i ≠ f → S w') ∧ wpBut P md ops Q f S n (listed.setIfInBounds i true) (a.put oi.dst v) w') : BStep P md ops Q f S n listed a w i :=
  bstep_wp hi hw (wp_call_to ho hc hx he hv h hR)
theorem bstep_store {i : Nat} {oi : Oper} (hi : ops[i]? = some oi) (hw : Region.wanted oi (yielded ops a.tmps) = true) (ty : TypeId) (x y : Operand) (ho : oi.op = .store ty x y)
    (g : Nat) (cells : Array Value) (hx : a.eval x = .pointer (some ⟨g, 0, none⟩)) (hy : a.eval y = .agg cells)
    (t : TypeId) (old : Array Value) (hg : w.heap[g]? = some (.cells old t (0, 0))) (hs : (P.info? ty).map (·.size) = some cells.size)
    (hold : old.size = cells.size) (h1 : cells.all (·.oneCell') = true)
    (h : (i ≠ f → S (w.setRow g cells)) ∧ wpBut P md ops Q f S n (listed.setIfInBounds i true) (a.put oi.dst undef) (w.setRow g cells)) : BStep P md ops Q f S n listed a w i :=
  bstep_wp hi hw (wp_store_row ty x y ho g cells hx hy t old hg hs hold h1 h)

/-- a region that draws, begun: the condition: nothing that was there when it began has turned -/
theorem wp_region_go {id : Nat} (f N : Nat) (l0 : Array Bool) (hm : P.follows .mixedOrders = true) (hN : ops.size = N) (hl : Array.replicate N false = l0)
    (h : ∀ W0 : World, W0 = w → wpBut P .any ops Q f (fun w' => Go.RowKit.Below W0.heap.size W0 w') N l0 a W0.drew) : (Code.region id ops true).wp P Q a w :=
  wp_region_but f _ hm (by subst hl; subst hN; exact h w rfl)
theorem wp_region_goS {id : Nat} (S : World → Prop) (f N : Nat) (l0 : Array Bool) (hm : P.follows .mixedOrders = true) (hN : ops.size = N) (hl : Array.replicate N false = l0)
    (h : wpBut P .any ops Q f S N l0 a w.drew) : (Code.region id ops true).wp P Q a w :=
  wp_region_but f S hm (by subst hl; subst hN; exact h)
theorem put_some {oi : Oper} {d : Tmp} (hd : oi.dst = some d) (a : Act) (v : Value) : a.put oi.dst v = { a with tmps := a.tmps.setIfInBounds d v } := by rw [hd]; rfl
theorem put_none {oi : Oper} (hd : oi.dst = none) (a : Act) (v : Value) : a.put oi.dst v = a := by rw [hd]; rfl
theorem go_take (i : Nat) (d : Tmp) (l' : Array Bool) {oi : Oper} {v : Value} (hi : ops[i]? = some oi) (hd : oi.dst = some d) (hl : listed.setIfInBounds i true = l') (hs : Region.noSelect ops = true) (hfr : Region.free md ops listed i = true)
    (hr : (Region.ready md ops listed).contains i = true) (hif : (i == f) = false) (hf : waitsFor md ops f i = true) (hy : YieldsIf P ops S oi v a) (hS : S w)
    (h : wpBut P md ops (NoPanic Q) f S n l' { a with tmps := a.tmps.setIfInBounds d v } w) : wpBut P md ops (NoPanic Q) f S (n + 1) listed a w :=
  wpBut_take hi hs hfr hr hif hf (fun _ _ _ h => h) hy hS (by rw [put_some hd, hl]; exact h)
/-- may number i be taken first -/
def takeOk (md : Region.Mode) (ops : Array Oper) (listed : Array Bool) (f i : Nat) : Bool := Region.noSelect ops && Region.free md ops listed i && (Region.ready md ops listed).contains i && !(i == f) && waitsFor md ops f i
theorem go_take2 {P : Program} {md : Region.Mode} {ops : Array Oper} {Q : Exit → Act → World → Prop} {f : Nat} {S : World → Prop} {n : Nat} {listed : Array Bool} {a : Act} {w : World} (i : Nat) (d : Tmp) (l' : Array Bool) {oi : Oper} {v : Value} (hi : ops[i]? = some oi) (hd : oi.dst = some d) (hl : listed.setIfInBounds i true = l') (hok : takeOk md ops listed f i = true) (hy : YieldsIf P ops S oi v a) (hS : S w)
    (h : wpBut P md ops (NoPanic Q) f S n l' { a with tmps := a.tmps.setIfInBounds d v } w) : wpBut P md ops (NoPanic Q) f S (n + 1) listed a w := by
  unfold takeOk at hok
  simp only [Bool.and_eq_true, Bool.not_eq_true'] at hok
  obtain ⟨⟨⟨⟨h1, h2⟩, h3⟩, h4⟩, h5⟩ := hok
  exact go_take i d l' hi hd hl h1 h2 h3 h4 h5 hy hS h
theorem sI {α : Type} (l : List α) (i : Nat) (a : α) : l.toArray.setIfInBounds i a = (l.set i a).toArray := List.setIfInBounds_toArray l i a
theorem sS {α : Type} (x : α) (l : List α) (i : Nat) (a : α) : (x :: l).set (i + 1) a = x :: l.set i a := List.set_cons_succ
theorem sZ {α : Type} (x : α) (l : List α) (a : α) : (x :: l).set 0 a = a :: l := List.set_cons_zero
theorem below_dr (w : World) : Go.RowKit.Below w.heap.size w w.drew := (Go.RowKit.Below.refl _ _).drew
theorem go_call (i : Nat) (d : Tmp) (l' : Array Bool) {oi : Oper} {c : Call} {x : Operand} {g : FuncId} {vl : List Value} {R : Ending → World → Prop} (hi : ops[i]? = some oi) (hd : oi.dst = some d) (hl : listed.setIfInBounds i true = l') (hw : Region.wanted oi (yielded ops a.tmps) = true) (ho : oi.op = .call c) (hc : c.callee = .value x)
    (hx : a.eval x = .func (.func g) #[] #[]) (he : Enters P g) (hv : c.args.toList.map a.eval = vl) (h : Calls P g vl.toArray w R)
    (hR : ∀ e w', R e w' → ∃ v, e = .returned v ∧ (i ≠ f → S w') ∧ wpBut P md ops Q f S n l' { a with tmps := a.tmps.setIfInBounds d v } w') : BStep P md ops Q f S n listed a w i :=
  bstep_call hi hw ho hc hx he hv h fun e w' hr => let ⟨v, h1, h2, h3⟩ := hR e w' hr; ⟨v, h1, h2, by rw [put_some hd, hl]; exact h3⟩
theorem go_store (i : Nat) (l' : Array Bool) {oi : Oper} (hi : ops[i]? = some oi) (hd : oi.dst = none) (hl : listed.setIfInBounds i true = l') (hw : Region.wanted oi (yielded ops a.tmps) = true) (ty : TypeId) (x y : Operand) (ho : oi.op = .store ty x y)
    (g : Nat) (cells : Array Value) (hx : a.eval x = .pointer (some ⟨g, 0, none⟩)) (hy : a.eval y = .agg cells)
    (t : TypeId) (old : Array Value) (hg : w.heap[g]? = some (.cells old t (0, 0))) (hs : (P.info? ty).map (·.size) = some cells.size)
    (hold : old.size = cells.size) (h1 : cells.all (·.oneCell') = true)
    (h : (i ≠ f → S (w.setRow g cells)) ∧ wpBut P md ops Q f S n l' a (w.setRow g cells)) : BStep P md ops Q f S n listed a w i :=
  bstep_store hi hw ty x y ho g cells hx hy t old hg hs hold h1 ⟨h.1, by rw [put_none hd, hl]; exact h.2⟩
theorem go_alloc (i : Nat) (d : Tmp) (l' : Array Bool) {oi : Oper} (hi : ops[i]? = some oi) (hd : oi.dst = some d) (hl : listed.setIfInBounds i true = l') (hw : Region.wanted oi (yielded ops a.tmps) = true) (ty : TypeId) (ho : oi.op = .alloc ty) (Z : Array Value)
    (hz : ∀ w : World, (Instr.alloc ty true (.tuple #[])).run P w = .ok (.pointer (some ⟨w.heap.size, 0, none⟩)) (w.alloc (.cells Z ty)))
    (h : ∀ w2, w2 = w.alloc (.cells Z ty) → (i ≠ f → S w2) ∧ wpBut P md ops Q f S n l' { a with tmps := a.tmps.setIfInBounds d (.pointer (some ⟨w.heap.size, 0, none⟩)) } w2) : BStep P md ops Q f S n listed a w i := by
  refine bstep_wp hi hw ?_
  unfold Oper.wp execOp
  simp only [ho, Sem.run_bind, Sem.run_pure, hz, Result.andThen_ok]
  have := h _ rfl
  rw [← put_some hd, ← hl] at this
  exact this
theorem go_store2 (i : Nat) (l' : Array Bool) {oi : Oper} (hi : ops[i]? = some oi) (hd : oi.dst = none) (hl : listed.setIfInBounds i true = l') (hw : Region.wanted oi (yielded ops a.tmps) = true) (ty : TypeId) (x y : Operand) (ho : oi.op = .store ty x y)
    (g : Nat) (cells : Array Value) (hx : a.eval x = .pointer (some ⟨g, 0, none⟩)) (hy : a.eval y = .agg cells)
    (t : TypeId) (old : Array Value) (hg : w.heap[g]? = some (.cells old t (0, 0))) (hs : (P.info? ty).map (·.size) = some cells.size)
    (hold : old.size = cells.size) (h1 : cells.all (·.oneCell') = true)
    (h : ∀ w2, w2 = w.setRow g cells → (i ≠ f → S w2) ∧ wpBut P md ops Q f S n l' a w2) : BStep P md ops Q f S n listed a w i :=
  go_store i l' hi hd hl hw ty x y ho g cells hx hy t old hg hs hold h1 (h _ rfl)
/-- a short name for what is left of a region -/
theorem but_name {n0 : Nat} {l0 : Array Bool} {a0 : Act} {w0 : World} (h : ∀ T : Nat → Array Bool → Act → World → Prop, (∀ n l a w, T n l a w ↔ wpBut P md ops Q f S n l a w) → T n0 l0 a0 w0) : wpBut P md ops Q f S n0 l0 a0 w0 :=
  h (fun n l a w => wpBut P md ops Q f S n l a w) (fun _ _ _ _ => Iff.rfl)
/-- the ways through a region meet again: what is known of the blocks that it made and of the numbers that its calls gave -/
theorem wp_region_meet {α : Type} {P : Program} {ops : Array Oper} {Q : Exit → Act → World → Prop} {id : Nat} {b : Bool} {a : Act} {w : World} (C : World → α → World → Prop) (F : Act → α → Act)
    (h : ∀ Q' : Exit → Act → World → Prop, (∀ x w', C w x w' → Q' .normal (F a x) w') → (Code.region id ops b).wp P Q' a w) (hQ : ∀ W0 x w', W0 = w → C W0 x w' → Q .normal (F a x) w') : (Code.region id ops b).wp P Q a w :=
  h Q fun x w' hC => hQ w x w' rfl hC

theorem wpList_load {rest : List Oper} {o : Oper} (hw : Region.wanted o (yielded ops a.tmps) = true) (ty : TypeId) (x : Operand) (ho : o.op = .load ty x) (g : Nat) (hx : a.eval x = .pointer (some ⟨g, 0, none⟩)) (t : TypeId) (cs : Array Value)
    {d : TypeDesc} (hg : w.heap[g]? = some (.cells cs t (0, 0))) (hu : P.underlying ty = some d) (hd : (match d with | .struct _ | .array _ _ => true | _ => false) = true) (hi : (P.info? ty).map (·.size) = some cs.size)
    (e : Tmp) (he : o.dst = some e) (h : wpList P ops Q rest { a with tmps := a.tmps.setIfInBounds e (.agg cs) } w) : wpList P ops Q (o :: rest) a w := by
  have hy := yieldsIf_load_row (ops := ops) (S := fun w' => w' = w) hw ty x ho g hx t cs (fun w' h' => by rw [h']; exact hg) hu hd hi
  rcases hy with ⟨_, h1⟩ | ⟨h1, _⟩
  · refine wpList_step fun K hK => ?_
    rw [if_pos hw]
    unfold Oper.wp
    rw [h1 w rfl, Oper.upon_value]
    refine hK _ _ ?_
    rw [put_some he]; exact h
  · rw [hw] at h1; cases h1
theorem wpList_call {rest : List Oper} {o : Oper} {c : Call} {x : Operand} {g : FuncId} {vl : List Value} {R : Ending → World → Prop} (hw : Region.wanted o (yielded ops a.tmps) = true) (ho : o.op = .call c) (hc : c.callee = .value x)
    (hx : a.eval x = .func (.func g) #[] #[]) (he : Enters P g) (hv : c.args.toList.map a.eval = vl) (h : Calls P g vl.toArray w R)
    (d : Tmp) (hd : o.dst = some d) (hR : ∀ e w', R e w' → ∃ v, e = .returned v ∧ wpList P ops Q rest { a with tmps := a.tmps.setIfInBounds d v } w') : wpList P ops Q (o :: rest) a w :=
  wpList_step fun K hK => by
    rw [if_pos hw]
    exact Oper.wp_mono hK (wp_call_to ho hc hx he hv h fun e w' hr => let ⟨v, h1, h2⟩ := hR e w' hr; ⟨v, h1, by rw [put_some hd]; exact h2⟩)
end Go
namespace Go.Proofs.Ytjiagjonlcadiaa
def z36 : Array Value := (#[.int .u64 0, .int .u64 0, .int .u64 0, .int .u64 0] : Array Value)
theorem al36 (w : World) : (Instr.alloc 36 true (.tuple #[])).run Try.prog w = .ok (.pointer (some ⟨w.heap.size, 0, none⟩)) (w.alloc (.cells z36 36)) := by
  unfold z36
  go_simp
def z24 : Array Value := (#[.int .u8 0, .int .u8 0, .int .u8 0, .int .u8 0, .int .u8 0, .int .u8 0, .int .u8 0, .int .u8 0, .int .u8 0, .int .u8 0, .int .u8 0, .int .u8 0, .int .u8 0, .int .u8 0, .int .u8 0, .int .u8 0, .int .u8 0, .int .u8 0, .int .u8 0, .int .u8 0, .int .u8 0, .int .u8 0, .int .u8 0, .int .u8 0, .int .u8 0, .int .u8 0, .int .u8 0, .int .u8 0, .int .u8 0, .int .u8 0, .int .u8 0, .int .u8 0] : Array Value)
theorem al24 (w : World) : (Instr.alloc 24 true (.tuple #[])).run Try.prog w = .ok (.pointer (some ⟨w.heap.size, 0, none⟩)) (w.alloc (.cells z24 24)) := by
  unfold z24
  go_simp
end Go.Proofs.Ytjiagjonlcadiaa
end
section
namespace Go.Proofs.Ytjiagjonlcadiaa
open Go.RowKit Go.Lib

theorem pw_go (a x k e m f : Nat) (hx : x % PP = pwm a k) (hm : m % PP = pwm x e) (hf : k * e = f) : m % PP = pwm a f := by
  rw [hm, ← pwm_mod, hx, pwm_pwm, hf]
theorem pw_by (a x y k e m f : Nat) (hx : x % PP = pwm a k) (hy : y % PP = pwm a e) (hm : m % PP = x * y % PP) (hf : k + e = f) : m % PP = pwm a f := by
  rw [hm, Nat.mul_mod, hx, hy, ← pwm_add, hf]
theorem pw_self (a : Nat) : a % PP = pwm a 1 := (pwm_one a).symm

theorem p_five (a m1 m2 m3 m4 : Nat) (h1 : m1 % PP = pwm a 3) (h2 : m2 % PP = pwm m1 5) (h3 : m3 % PP = pwm m2 2) (h4 : m4 % PP = m3 * a % PP) : m4 % PP = pwm a 31 :=
  pw_by a m3 a 30 1 m4 31 (pw_go a m2 15 2 m3 30 (pw_go a m1 3 5 m2 15 h1 h2 rfl) h3 rfl) (pw_self a) h4 rfl
theorem p_fifty (a m6 m7 m8 m5 m9 : Nat) (h6 : m6 % PP = pwm a 1048575) (h5 : m5 % PP = pwm a 1023) (h7 : m7 % PP = pwm m6 1048577) (h8 : m8 % PP = pwm m7 1024) (h9 : m9 % PP = m8 * m5 % PP) : m9 % PP = pwm a 1125899906842623 :=
  pw_by a m8 m5 1125899906841600 1023 m9 _ (pw_go a m7 1099511627775 1024 m8 _ (pw_go a m6 1048575 1048577 m7 _ h6 h7 (by decide +kernel)) h8 (by decide +kernel)) h5 h9 (by decide +kernel)
theorem p_all (a m10 m11 m12 m9 m13 : Nat) (h10 : m10 % PP = pwm a 1267650600228229401496703205375) (h9 : m9 % PP = pwm a 1125899906842623) (h11 : m11 % PP = pwm m10 1267650600228229401496703205377) (h12 : m12 % PP = pwm m11 1125899906842624) (h13 : m13 % PP = m12 * m9 % PP) : m13 % PP = pwm a 1809251394333065553493296640760748560207343510400633813116524750123642650623 :=
  pw_by a m12 m9 1809251394333065553493296640760748560207343510400633813116523624223735808000 1125899906842623 m13 _ (pw_go a m11 1606938044258990275541962092341162602522202993782792835301375 1125899906842624 m12 _ (pw_go a m10 1267650600228229401496703205375 1267650600228229401496703205377 m11 _ h10 h11 (by decide +kernel)) h12 (by decide +kernel)) h9 h13 (by decide +kernel)

theorem grow_1 (x : Nat) (hx : x < 115792089237316195423570985008687907853269984665640564039457584007913129639936) (w : World) : Calls Try.prog 110 #[.agg (e4 x), .int .i64 1] w (ElP (pwm x 3) w) := by
  have h := grow_any x 1 hx (by decide) w
  rw [show 2 ^ 1 + 1 = 3 by decide +kernel] at h
  exact h
theorem grow_2 (x : Nat) (hx : x < 115792089237316195423570985008687907853269984665640564039457584007913129639936) (w : World) : Calls Try.prog 110 #[.agg (e4 x), .int .i64 2] w (ElP (pwm x 5) w) := by
  have h := grow_any x 2 hx (by decide) w
  rw [show 2 ^ 2 + 1 = 5 by decide +kernel] at h
  exact h
theorem grow_5 (x : Nat) (hx : x < 115792089237316195423570985008687907853269984665640564039457584007913129639936) (w : World) : Calls Try.prog 110 #[.agg (e4 x), .int .i64 5] w (ElP (pwm x 33) w) := by
  have h := grow_any x 5 hx (by decide) w
  rw [show 2 ^ 5 + 1 = 33 by decide +kernel] at h
  exact h
theorem grow_10 (x : Nat) (hx : x < 115792089237316195423570985008687907853269984665640564039457584007913129639936) (w : World) : Calls Try.prog 110 #[.agg (e4 x), .int .i64 10] w (ElP (pwm x 1025) w) := by
  have h := grow_any x 10 hx (by decide) w
  rw [show 2 ^ 10 + 1 = 1025 by decide +kernel] at h
  exact h
theorem grow_20 (x : Nat) (hx : x < 115792089237316195423570985008687907853269984665640564039457584007913129639936) (w : World) : Calls Try.prog 110 #[.agg (e4 x), .int .i64 20] w (ElP (pwm x 1048577) w) := by
  have h := grow_any x 20 hx (by decide) w
  rw [show 2 ^ 20 + 1 = 1048577 by decide +kernel] at h
  exact h
theorem grow_50 (x : Nat) (hx : x < 115792089237316195423570985008687907853269984665640564039457584007913129639936) (w : World) : Calls Try.prog 110 #[.agg (e4 x), .int .i64 50] w (ElP (pwm x 1125899906842625) w) := by
  have h := grow_any x 50 hx (by decide) w
  rw [show 2 ^ 50 + 1 = 1125899906842625 by decide +kernel] at h
  exact h
theorem grow_100 (x : Nat) (hx : x < 115792089237316195423570985008687907853269984665640564039457584007913129639936) (w : World) : Calls Try.prog 110 #[.agg (e4 x), .int .i64 100] w (ElP (pwm x 1267650600228229401496703205377) w) := by
  have h := grow_any x 100 hx (by decide) w
  rw [show 2 ^ 100 + 1 = 1267650600228229401496703205377 by decide +kernel] at h
  exact h
theorem squares_1 (x : Nat) (hx : x < 115792089237316195423570985008687907853269984665640564039457584007913129639936) (w : World) : Calls Try.prog 83 #[.agg (e4 x), .int .i64 1] w (ElP (pwm x 2) w) := by
  have h := squares_any x 1 hx (by decide) w
  rw [show 2 ^ 1 = 2 by decide +kernel] at h
  exact h
theorem squares_2 (x : Nat) (hx : x < 115792089237316195423570985008687907853269984665640564039457584007913129639936) (w : World) : Calls Try.prog 83 #[.agg (e4 x), .int .i64 2] w (ElP (pwm x 4) w) := by
  have h := squares_any x 2 hx (by decide) w
  rw [show 2 ^ 2 = 4 by decide +kernel] at h
  exact h
theorem squares_3 (x : Nat) (hx : x < 115792089237316195423570985008687907853269984665640564039457584007913129639936) (w : World) : Calls Try.prog 83 #[.agg (e4 x), .int .i64 3] w (ElP (pwm x 8) w) := by
  have h := squares_any x 3 hx (by decide) w
  rw [show 2 ^ 3 = 8 by decide +kernel] at h
  exact h
theorem squares_5 (x : Nat) (hx : x < 115792089237316195423570985008687907853269984665640564039457584007913129639936) (w : World) : Calls Try.prog 83 #[.agg (e4 x), .int .i64 5] w (ElP (pwm x 32) w) := by
  have h := squares_any x 5 hx (by decide) w
  rw [show 2 ^ 5 = 32 by decide +kernel] at h
  exact h
theorem squares_10 (x : Nat) (hx : x < 115792089237316195423570985008687907853269984665640564039457584007913129639936) (w : World) : Calls Try.prog 83 #[.agg (e4 x), .int .i64 10] w (ElP (pwm x 1024) w) := by
  have h := squares_any x 10 hx (by decide) w
  rw [show 2 ^ 10 = 1024 by decide +kernel] at h
  exact h
theorem squares_50 (x : Nat) (hx : x < 115792089237316195423570985008687907853269984665640564039457584007913129639936) (w : World) : Calls Try.prog 83 #[.agg (e4 x), .int .i64 50] w (ElP (pwm x 1125899906842624) w) := by
  have h := squares_any x 50 hx (by decide) w
  rw [show 2 ^ 50 = 1125899906842624 by decide +kernel] at h
  exact h
theorem ent30 : Enters Try.prog 30 := ⟨_, Try.func30, by kernel_rfl, by kernel_rfl⟩
theorem ent31 : Enters Try.prog 31 := ⟨_, Try.func31, by kernel_rfl, by kernel_rfl⟩
theorem ent34 : Enters Try.prog 34 := ⟨_, Try.func34, by kernel_rfl, by kernel_rfl⟩
theorem ent36 : Enters Try.prog 36 := ⟨_, Try.func36, by kernel_rfl, by kernel_rfl⟩
theorem ent37 : Enters Try.prog 37 := ⟨_, Try.func37, by kernel_rfl, by kernel_rfl⟩
theorem ent39 : Enters Try.prog 39 := ⟨_, Try.func39, by kernel_rfl, by kernel_rfl⟩
theorem ent41 : Enters Try.prog 41 := ⟨_, Try.func41, by kernel_rfl, by kernel_rfl⟩
theorem ent42 : Enters Try.prog 42 := ⟨_, Try.func42, by kernel_rfl, by kernel_rfl⟩
theorem ent44 : Enters Try.prog 44 := ⟨_, Try.func44, by kernel_rfl, by kernel_rfl⟩
theorem ent73 : Enters Try.prog 73 := ⟨_, Try.func73, by kernel_rfl, by kernel_rfl⟩
theorem ent83 : Enters Try.prog 83 := ⟨_, Try.func83, by kernel_rfl, by kernel_rfl⟩
theorem ent84 : Enters Try.prog 84 := ⟨_, Try.func84, by kernel_rfl, by kernel_rfl⟩
theorem ent110 : Enters Try.prog 110 := ⟨_, Try.func110, by kernel_rfl, by kernel_rfl⟩
end Go.Proofs.Ytjiagjonlcadiaa
end
section
namespace Go.Proofs.Ytjiagjonlcadiaa
open Go.RowKit Go.Lib

set_option maxRecDepth 100000 in
set_option linter.unusedSimpArgs false in
set_option maxHeartbeats 8000000 in
theorem power_any (a : Nat) (ha : a < 115792089237316195423570985008687907853269984665640564039457584007913129639936) (w : World) :
    Calls Try.prog 84 #[.agg (e4 a)] w (ElP (pwm a 1809251394333065553493296640760748560207343510400633813116524750123642650623) w) := by
  have hg1 := fun w => grow_1 a ha w
  have hg2 := grow_2
  have hg5 := grow_5
  have hg10 := grow_10
  have hg20 := grow_20
  have hg50 := grow_50
  have hg100 := grow_100
  have hs1 := squares_1
  have hs10 := squares_10
  have hs50 := squares_50
  have ht := fun x y hx hy w => times_any x y hx hy w
  have hp5 := p_five a
  have hp50 := p_fifty a
  have hpa := p_all a
  have hgo := pw_go a
  have Hg1 := Lib.hid hg1; clear hg1
  have Hg2 := Lib.hid hg2; clear hg2
  have Hs1 := Lib.hid hs1; clear hs1
  have Ht := Lib.hid ht; clear ht
  have Ha := Lib.hid ha; clear ha
  have Hp5 := Lib.hid hp5; clear hp5
  have Hg5 := Lib.hid hg5; clear hg5
  have Hg10 := Lib.hid hg10; clear hg10
  have Hg20 := Lib.hid hg20; clear hg20
  have Hg50 := Lib.hid hg50; clear hg50
  have Hg100 := Lib.hid hg100; clear hg100
  have Hs10 := Lib.hid hs10; clear hs10
  have Hs50 := Lib.hid hs50; clear hs50
  have Hp50 := Lib.hid hp50; clear hp50
  have Hpa := Lib.hid hpa; clear hpa
  have Hgo := Lib.hid hgo; clear hgo
  go_enter Try.func84, Try.ntmps84
  go_wp2_with fail
  refine wp_region_meet (α := Nat × Nat × Nat × Nat × Nat) (fun W0 x w' => x.2.2.2.2 < 115792089237316195423570985008687907853269984665640564039457584007913129639936 ∧ x.2.2.2.2 % PP = pwm a 31 ∧ W0.heap.size ≤ x.1 ∧ Has w' x.1 (e4 x.2.2.2.2) 36 ∧ Below W0.heap.size W0 w') (fun ac x => ((((((((ac.put (some 9) (.func (.func 110) #[] #[])).put (some 10) (.func (.func 110) #[] #[])).put (some 11) (.agg (e4 a))).put (some 12) (.agg (e4 x.2.1))).put (some 13) (.agg (e4 x.2.2.1))).put (some 14) (.agg (e4 x.2.2.2.1))).put (some 15) (.agg (e4 a))).put (some 16) (.agg (e4 x.2.2.2.2))).put (some 4) (.pointer (some ⟨x.1, 0, none⟩))) ?_ ?_
  · intro Q' hQ'
    refine wp_region_noPanic ?_
    refine wp_region_go 99 10 #[ff,ff,ff,ff,ff,ff,ff,ff,ff,ff] (by kernel_rfl) rfl rfl ?_
    intro W0 hW0
    have N0 := Lib.hid (show Has W0 w.heap.size (e4 a) 36 by rw [hW0]; exact (Has.new _ _ _).alloc _)
    rw [← hW0] at hQ'
    simp only [Act.put, List.setIfInBounds_toArray, List.set_cons_succ, List.set_cons_zero] at hQ'
    have HQ := Lib.hid hQ'; clear hQ' hW0
    refine go_take2 0 9 #[tt,ff,ff,ff,ff,ff,ff,ff,ff,ff] (v := ?uv1) rfl rfl rfl (by kernel_rfl) (Or.inl ⟨by rfl, ?uy1⟩) ((below_dr W0)) ?urest1
    case uy1 => (intro _ _; go_simp; try with_reducible rfl)
    (try simp only [sI, sS, sZ])
    refine go_take2 1 10 #[tt,tt,ff,ff,ff,ff,ff,ff,ff,ff] (v := ?uv2) rfl rfl rfl (by kernel_rfl) (Or.inl ⟨by rfl, ?uy2⟩) ((below_dr W0)) ?urest2
    case uy2 => (intro _ _; go_simp; try with_reducible rfl)
    (try simp only [sI, sS, sZ])
    refine go_take2 2 11 #[tt,tt,tt,ff,ff,ff,ff,ff,ff,ff] rfl rfl rfl (by kernel_rfl) (yieldsIf_load_row (by rfl) 36 _ rfl (w.heap.size) rfl 36 (e4 a) (fun _ h => N0.out.below h N0.out.lt) Try.underlying36 rfl (by rw [e4_size]; kernel_rfl)) ((below_dr W0)) ?_
    (try simp only [sI, sS, sZ])
    refine go_take2 6 15 #[tt,tt,tt,ff,ff,ff,tt,ff,ff,ff] rfl rfl rfl (by kernel_rfl) (yieldsIf_load_row (by rfl) 36 _ rfl (w.heap.size) rfl 36 (e4 a) (fun _ h => N0.out.below h N0.out.lt) Try.underlying36 rfl (by rw [e4_size]; kernel_rfl)) ((below_dr W0)) ?_
    (try simp only [sI, sS, sZ])
    refine wpBut_r2 (i := 3) (j := 8) (by kernel_rfl) ?_ ?_
    refine go_call 3 12 #[tt,tt,tt,tt,ff,ff,tt,ff,ff,ff] rfl rfl rfl (by rfl) rfl rfl (by rfl) ent110 (by rfl) (Hg1.out _) ?_
    rintro e wW01 ⟨m1, hm1, hm1r, rfl, hb⟩
    have hkW01 := held_next (below_dr W0) hb
    refine ⟨_, rfl, fun _ => hkW01, ?_⟩
    clear hb
    (try simp only [sI, sS, sZ])
    refine wpBut_r2 (i := 4) (j := 8) (by kernel_rfl) ?_ ?_
    refine go_call 4 13 #[tt,tt,tt,tt,tt,ff,tt,ff,ff,ff] rfl rfl rfl (by rfl) rfl rfl (by rfl) ent110 (by rfl) (Hg2.out m1 hm1 _) ?_
    rintro e wW02 ⟨m2, hm2, hm2r, rfl, hb⟩
    have hkW02 := held_next hkW01 hb
    refine ⟨_, rfl, fun _ => hkW02, ?_⟩
    clear hb
    (try simp only [sI, sS, sZ])
    refine wpBut_r2 (i := 5) (j := 8) (by kernel_rfl) ?_ ?_
    refine go_call 5 14 #[tt,tt,tt,tt,tt,tt,tt,ff,ff,ff] rfl rfl rfl (by rfl) rfl rfl (by rfl) ent83 (by rfl) (Hs1.out m2 hm2 _) ?_
    rintro e wW03 ⟨m3, hm3, hm3r, rfl, hb⟩
    have hkW03 := held_next hkW02 hb
    refine ⟨_, rfl, fun _ => hkW03, ?_⟩
    clear hb
    (try simp only [sI, sS, sZ])
    refine wpBut_r2 (i := 7) (j := 8) (by kernel_rfl) ?_ ?_
    refine go_call 7 16 #[tt,tt,tt,tt,tt,tt,tt,tt,ff,ff] rfl rfl rfl (by rfl) rfl rfl (by rfl) ent31 (by rfl) (Ht.out m3 a hm3 Ha.out _) ?_
    rintro e wW04 ⟨m4, hm4, hm4r, rfl, hb⟩
    have hkW04 := held_next hkW03 hb
    refine ⟨_, rfl, fun _ => hkW04, ?_⟩
    clear hb
    (try simp only [sI, sS, sZ])
    refine wpBut_r1 (i := 8) (by kernel_rfl) ?_
    refine go_alloc 8 4 #[tt,tt,tt,tt,tt,tt,tt,tt,tt,ff] rfl rfl rfl (by rfl) 36 rfl _ al36 ?_
    intro wW05 hw2
    have hkW05 := (hkW04).alloc (hkW04).size (.cells z36 36)
    rw [← hw2] at hkW05
    have MA8 := Lib.hid (HasN.new (wW04) z36 36 4 (by kernel_rfl))
    rw [← hw2] at MA8
    have HA8 := Lib.hid (show W0.heap.size ≤ _ from (hkW04).size)
    clear hw2
    refine ⟨fun _ => hkW05, ?_⟩
    (try simp only [sI, sS, sZ])
    refine wpBut_r1 (i := 9) (by kernel_rfl) ?_
    obtain ⟨Zq, hZ, mZ⟩ := MA8.out
    refine go_store2 9 #[tt,tt,tt,tt,tt,tt,tt,tt,tt,tt] rfl rfl rfl (by rfl) 36 _ _ rfl _ _ rfl rfl 36 Zq mZ (by rw [e4_size]; kernel_rfl) (hZ.trans (e4_size ..).symm) (row_one _ _ _) ?_
    intro wW06 hw2
    have hkW06 := below_setRow (hkW05) _ (e4 m4) HA8.out
    rw [← hw2] at hkW06
    clear MA8
    have MA8 := Lib.hid (mZ.setRow (e4 m4))
    rw [← hw2] at MA8; clear mZ hZ hw2
    refine ⟨fun _ => hkW06, ?_⟩
    (try simp only [sI, sS, sZ])
    exact wpBut_done (by kernel_rfl) (NoPanic.normal (HQ.out (_, m1, m2, m3, m4) _ ⟨hm4, Hp5.out m1 m2 m3 m4 hm1r hm2r hm3r hm4r, HA8.out, MA8.out, (hkW06)⟩))
    refine go_alloc 8 4 #[tt,tt,tt,tt,tt,tt,tt,ff,tt,ff] rfl rfl rfl (by rfl) 36 rfl _ al36 ?_
    intro wW04 hw2
    have hkW04 := (hkW03).alloc (hkW03).size (.cells z36 36)
    rw [← hw2] at hkW04
    have MA8 := Lib.hid (HasN.new (wW03) z36 36 4 (by kernel_rfl))
    rw [← hw2] at MA8
    have HA8 := Lib.hid (show W0.heap.size ≤ _ from (hkW03).size)
    clear hw2
    refine ⟨fun _ => hkW04, ?_⟩
    (try simp only [sI, sS, sZ])
    refine wpBut_r1 (i := 7) (by kernel_rfl) ?_
    refine go_call 7 16 #[tt,tt,tt,tt,tt,tt,tt,tt,tt,ff] rfl rfl rfl (by rfl) rfl rfl (by rfl) ent31 (by rfl) (Ht.out m3 a hm3 Ha.out _) ?_
    rintro e wW05 ⟨m4, hm4, hm4r, rfl, hb⟩
    have hkW05 := held_next hkW04 hb
    replace MA8 := Lib.hid (MA8.out.call hb)
    refine ⟨_, rfl, fun _ => hkW05, ?_⟩
    clear hb
    (try simp only [sI, sS, sZ])
    refine wpBut_r1 (i := 9) (by kernel_rfl) ?_
    obtain ⟨Zq, hZ, mZ⟩ := MA8.out
    refine go_store2 9 #[tt,tt,tt,tt,tt,tt,tt,tt,tt,tt] rfl rfl rfl (by rfl) 36 _ _ rfl _ _ rfl rfl 36 Zq mZ (by rw [e4_size]; kernel_rfl) (hZ.trans (e4_size ..).symm) (row_one _ _ _) ?_
    intro wW06 hw2
    have hkW06 := below_setRow (hkW05) _ (e4 m4) HA8.out
    rw [← hw2] at hkW06
    clear MA8
    have MA8 := Lib.hid (mZ.setRow (e4 m4))
    rw [← hw2] at MA8; clear mZ hZ hw2
    refine ⟨fun _ => hkW06, ?_⟩
    (try simp only [sI, sS, sZ])
    exact wpBut_done (by kernel_rfl) (NoPanic.normal (HQ.out (_, m1, m2, m3, m4) _ ⟨hm4, Hp5.out m1 m2 m3 m4 hm1r hm2r hm3r hm4r, HA8.out, MA8.out, (hkW06)⟩))
    refine go_alloc 8 4 #[tt,tt,tt,tt,tt,ff,tt,ff,tt,ff] rfl rfl rfl (by rfl) 36 rfl _ al36 ?_
    intro wW03 hw2
    have hkW03 := (hkW02).alloc (hkW02).size (.cells z36 36)
    rw [← hw2] at hkW03
    have MA8 := Lib.hid (HasN.new (wW02) z36 36 4 (by kernel_rfl))
    rw [← hw2] at MA8
    have HA8 := Lib.hid (show W0.heap.size ≤ _ from (hkW02).size)
    clear hw2
    refine ⟨fun _ => hkW03, ?_⟩
    (try simp only [sI, sS, sZ])
    refine wpBut_r1 (i := 5) (by kernel_rfl) ?_
    refine go_call 5 14 #[tt,tt,tt,tt,tt,tt,tt,ff,tt,ff] rfl rfl rfl (by rfl) rfl rfl (by rfl) ent83 (by rfl) (Hs1.out m2 hm2 _) ?_
    rintro e wW04 ⟨m3, hm3, hm3r, rfl, hb⟩
    have hkW04 := held_next hkW03 hb
    replace MA8 := Lib.hid (MA8.out.call hb)
    refine ⟨_, rfl, fun _ => hkW04, ?_⟩
    clear hb
    (try simp only [sI, sS, sZ])
    refine wpBut_r1 (i := 7) (by kernel_rfl) ?_
    refine go_call 7 16 #[tt,tt,tt,tt,tt,tt,tt,tt,tt,ff] rfl rfl rfl (by rfl) rfl rfl (by rfl) ent31 (by rfl) (Ht.out m3 a hm3 Ha.out _) ?_
    rintro e wW05 ⟨m4, hm4, hm4r, rfl, hb⟩
    have hkW05 := held_next hkW04 hb
    replace MA8 := Lib.hid (MA8.out.call hb)
    refine ⟨_, rfl, fun _ => hkW05, ?_⟩
    clear hb
    (try simp only [sI, sS, sZ])
    refine wpBut_r1 (i := 9) (by kernel_rfl) ?_
    obtain ⟨Zq, hZ, mZ⟩ := MA8.out
    refine go_store2 9 #[tt,tt,tt,tt,tt,tt,tt,tt,tt,tt] rfl rfl rfl (by rfl) 36 _ _ rfl _ _ rfl rfl 36 Zq mZ (by rw [e4_size]; kernel_rfl) (hZ.trans (e4_size ..).symm) (row_one _ _ _) ?_
    intro wW06 hw2
    have hkW06 := below_setRow (hkW05) _ (e4 m4) HA8.out
    rw [← hw2] at hkW06
    clear MA8
    have MA8 := Lib.hid (mZ.setRow (e4 m4))
    rw [← hw2] at MA8; clear mZ hZ hw2
    refine ⟨fun _ => hkW06, ?_⟩
    (try simp only [sI, sS, sZ])
    exact wpBut_done (by kernel_rfl) (NoPanic.normal (HQ.out (_, m1, m2, m3, m4) _ ⟨hm4, Hp5.out m1 m2 m3 m4 hm1r hm2r hm3r hm4r, HA8.out, MA8.out, (hkW06)⟩))
    refine go_alloc 8 4 #[tt,tt,tt,tt,ff,ff,tt,ff,tt,ff] rfl rfl rfl (by rfl) 36 rfl _ al36 ?_
    intro wW02 hw2
    have hkW02 := (hkW01).alloc (hkW01).size (.cells z36 36)
    rw [← hw2] at hkW02
    have MA8 := Lib.hid (HasN.new (wW01) z36 36 4 (by kernel_rfl))
    rw [← hw2] at MA8
    have HA8 := Lib.hid (show W0.heap.size ≤ _ from (hkW01).size)
    clear hw2
    refine ⟨fun _ => hkW02, ?_⟩
    (try simp only [sI, sS, sZ])
    refine wpBut_r1 (i := 4) (by kernel_rfl) ?_
    refine go_call 4 13 #[tt,tt,tt,tt,tt,ff,tt,ff,tt,ff] rfl rfl rfl (by rfl) rfl rfl (by rfl) ent110 (by rfl) (Hg2.out m1 hm1 _) ?_
    rintro e wW03 ⟨m2, hm2, hm2r, rfl, hb⟩
    have hkW03 := held_next hkW02 hb
    replace MA8 := Lib.hid (MA8.out.call hb)
    refine ⟨_, rfl, fun _ => hkW03, ?_⟩
    clear hb
    (try simp only [sI, sS, sZ])
    refine wpBut_r1 (i := 5) (by kernel_rfl) ?_
    refine go_call 5 14 #[tt,tt,tt,tt,tt,tt,tt,ff,tt,ff] rfl rfl rfl (by rfl) rfl rfl (by rfl) ent83 (by rfl) (Hs1.out m2 hm2 _) ?_
    rintro e wW04 ⟨m3, hm3, hm3r, rfl, hb⟩
    have hkW04 := held_next hkW03 hb
    replace MA8 := Lib.hid (MA8.out.call hb)
    refine ⟨_, rfl, fun _ => hkW04, ?_⟩
    clear hb
    (try simp only [sI, sS, sZ])
    refine wpBut_r1 (i := 7) (by kernel_rfl) ?_
    refine go_call 7 16 #[tt,tt,tt,tt,tt,tt,tt,tt,tt,ff] rfl rfl rfl (by rfl) rfl rfl (by rfl) ent31 (by rfl) (Ht.out m3 a hm3 Ha.out _) ?_
    rintro e wW05 ⟨m4, hm4, hm4r, rfl, hb⟩
    have hkW05 := held_next hkW04 hb
    replace MA8 := Lib.hid (MA8.out.call hb)
    refine ⟨_, rfl, fun _ => hkW05, ?_⟩
    clear hb
    (try simp only [sI, sS, sZ])
    refine wpBut_r1 (i := 9) (by kernel_rfl) ?_
    obtain ⟨Zq, hZ, mZ⟩ := MA8.out
    refine go_store2 9 #[tt,tt,tt,tt,tt,tt,tt,tt,tt,tt] rfl rfl rfl (by rfl) 36 _ _ rfl _ _ rfl rfl 36 Zq mZ (by rw [e4_size]; kernel_rfl) (hZ.trans (e4_size ..).symm) (row_one _ _ _) ?_
    intro wW06 hw2
    have hkW06 := below_setRow (hkW05) _ (e4 m4) HA8.out
    rw [← hw2] at hkW06
    clear MA8
    have MA8 := Lib.hid (mZ.setRow (e4 m4))
    rw [← hw2] at MA8; clear mZ hZ hw2
    refine ⟨fun _ => hkW06, ?_⟩
    (try simp only [sI, sS, sZ])
    exact wpBut_done (by kernel_rfl) (NoPanic.normal (HQ.out (_, m1, m2, m3, m4) _ ⟨hm4, Hp5.out m1 m2 m3 m4 hm1r hm2r hm3r hm4r, HA8.out, MA8.out, (hkW06)⟩))
    refine go_alloc 8 4 #[tt,tt,tt,ff,ff,ff,tt,ff,tt,ff] rfl rfl rfl (by rfl) 36 rfl _ al36 ?_
    intro wW01 hw2
    have hkW01 := ((below_dr W0)).alloc ((below_dr W0)).size (.cells z36 36)
    rw [← hw2] at hkW01
    have MA8 := Lib.hid (HasN.new (W0.drew) z36 36 4 (by kernel_rfl))
    rw [← hw2] at MA8
    have HA8 := Lib.hid (show W0.heap.size ≤ _ from ((below_dr W0)).size)
    clear hw2
    refine ⟨fun _ => hkW01, ?_⟩
    (try simp only [sI, sS, sZ])
    refine wpBut_r1 (i := 3) (by kernel_rfl) ?_
    refine go_call 3 12 #[tt,tt,tt,tt,ff,ff,tt,ff,tt,ff] rfl rfl rfl (by rfl) rfl rfl (by rfl) ent110 (by rfl) (Hg1.out _) ?_
    rintro e wW02 ⟨m1, hm1, hm1r, rfl, hb⟩
    have hkW02 := held_next hkW01 hb
    replace MA8 := Lib.hid (MA8.out.call hb)
    refine ⟨_, rfl, fun _ => hkW02, ?_⟩
    clear hb
    (try simp only [sI, sS, sZ])
    refine wpBut_r1 (i := 4) (by kernel_rfl) ?_
    refine go_call 4 13 #[tt,tt,tt,tt,tt,ff,tt,ff,tt,ff] rfl rfl rfl (by rfl) rfl rfl (by rfl) ent110 (by rfl) (Hg2.out m1 hm1 _) ?_
    rintro e wW03 ⟨m2, hm2, hm2r, rfl, hb⟩
    have hkW03 := held_next hkW02 hb
    replace MA8 := Lib.hid (MA8.out.call hb)
    refine ⟨_, rfl, fun _ => hkW03, ?_⟩
    clear hb
    (try simp only [sI, sS, sZ])
    refine wpBut_r1 (i := 5) (by kernel_rfl) ?_
    refine go_call 5 14 #[tt,tt,tt,tt,tt,tt,tt,ff,tt,ff] rfl rfl rfl (by rfl) rfl rfl (by rfl) ent83 (by rfl) (Hs1.out m2 hm2 _) ?_
    rintro e wW04 ⟨m3, hm3, hm3r, rfl, hb⟩
    have hkW04 := held_next hkW03 hb
    replace MA8 := Lib.hid (MA8.out.call hb)
    refine ⟨_, rfl, fun _ => hkW04, ?_⟩
    clear hb
    (try simp only [sI, sS, sZ])
    refine wpBut_r1 (i := 7) (by kernel_rfl) ?_
    refine go_call 7 16 #[tt,tt,tt,tt,tt,tt,tt,tt,tt,ff] rfl rfl rfl (by rfl) rfl rfl (by rfl) ent31 (by rfl) (Ht.out m3 a hm3 Ha.out _) ?_
    rintro e wW05 ⟨m4, hm4, hm4r, rfl, hb⟩
    have hkW05 := held_next hkW04 hb
    replace MA8 := Lib.hid (MA8.out.call hb)
    refine ⟨_, rfl, fun _ => hkW05, ?_⟩
    clear hb
    (try simp only [sI, sS, sZ])
    refine wpBut_r1 (i := 9) (by kernel_rfl) ?_
    obtain ⟨Zq, hZ, mZ⟩ := MA8.out
    refine go_store2 9 #[tt,tt,tt,tt,tt,tt,tt,tt,tt,tt] rfl rfl rfl (by rfl) 36 _ _ rfl _ _ rfl rfl 36 Zq mZ (by rw [e4_size]; kernel_rfl) (hZ.trans (e4_size ..).symm) (row_one _ _ _) ?_
    intro wW06 hw2
    have hkW06 := below_setRow (hkW05) _ (e4 m4) HA8.out
    rw [← hw2] at hkW06
    clear MA8
    have MA8 := Lib.hid (mZ.setRow (e4 m4))
    rw [← hw2] at MA8; clear mZ hZ hw2
    refine ⟨fun _ => hkW06, ?_⟩
    (try simp only [sI, sS, sZ])
    exact wpBut_done (by kernel_rfl) (NoPanic.normal (HQ.out (_, m1, m2, m3, m4) _ ⟨hm4, Hp5.out m1 m2 m3 m4 hm1r hm2r hm3r hm4r, HA8.out, MA8.out, (hkW06)⟩))
  · rintro W0 ⟨B4, m1, m2, m3, m4⟩ w4 hW0 ⟨hm4, hm4r, hB4, m4', hbw⟩
    simp only [Act.put, List.setIfInBounds_toArray, List.set_cons_succ, List.set_cons_zero] at hm4 hm4r hB4 m4' ⊢
    have hne4 : w.heap.size + 1 < B4 := by rw [hW0] at hB4; simp at hB4; omega
    have M1 := Lib.hid ((show HasN W0 (w.heap.size + 1) 4 36 by rw [hW0]; exact HasN.new1 _ _ _ _ 4 rfl).call hbw)
    have HB := Lib.hid (held_next (show Below w.heap.size w W0 by rw [hW0]; exact below_2 _ _ _) hbw)
    have M4' := Lib.hid m4'; clear m4'
    have Hm4r := Lib.hid hm4r; clear hm4r
    clear hW0 hbw hB4 W0
    have hl1 := M1.out.lt
    have hl4 := M4'.out.lt
    go_step
    go_step
    go_step
    go_step
    (refine wpList_step (fun K hK => ?_); go_simp; (try go_bits); refine hK _ _ ?_; clear hK K)
    refine wpList_load (by rfl) 36 _ rfl (B4) rfl 36 (e4 m4) M4'.out Try.underlying36 rfl (by rw [e4_size]; kernel_rfl) 18 rfl ?_
    (try simp only [Act.put, sI, sS, sZ])
    refine wpList_call (by rfl) rfl rfl (by rfl) ent110 (by rfl) (Hg5.out m4 hm4 _) 19 rfl ?_
    rintro e uw1 ⟨m5, hm5, hm5r, rfl, hb⟩
    replace M1 := Lib.hid (M1.out.call hb)
    replace M4' := Lib.hid (M4'.out.call hb)
    replace HB := Lib.hid (held_next HB.out hb)
    refine ⟨_, rfl, ?_⟩
    clear hb
    (try simp only [Act.put, sI, sS, sZ])
    refine wpList_step (fun K hK => ?_)
    go_simp
    have hlt1 := M1.out.lt
    have hlt2 := M4'.out.lt
    replace M1 := Lib.hid (M1.out.alloc (.cells (#[.int .u64 0, .int .u64 0, .int .u64 0, .int .u64 0] : Array Value) 36))
    replace M4' := Lib.hid (M4'.out.alloc (.cells (#[.int .u64 0, .int .u64 0, .int .u64 0, .int .u64 0] : Array Value) 36))
    have M5 := Lib.hid (HasN.new uw1 (#[.int .u64 0, .int .u64 0, .int .u64 0, .int .u64 0] : Array Value) 36 4 rfl)
    have hsz := HB.out.size
    replace HB := Lib.hid (HB.out.alloc hsz (.cells (#[.int .u64 0, .int .u64 0, .int .u64 0, .int .u64 0] : Array Value) 36))
    refine hK _ _ ?_
    clear hK K
    first | (obtain ⟨Zq, hZ, mZ⟩ := M5.out) | (obtain ⟨Zq, hZ, mZ⟩ := M5.out.toN (e4_size _))
    clear M5
    have hZ' := Lib.hid hZ; clear hZ
    have mZ' := Lib.hid mZ; clear mZ
    refine wpList_store_row rfl 36 _ _ rfl (uw1.heap.size) _ rfl rfl 36 Zq mZ'.out (by rw [e4_size]; kernel_rfl) (hZ'.out.trans (e4_size _).symm) (row_one _ _ _) ?_
    (try simp only [Act.put, sI, sS, sZ])
    replace M1 := Lib.hid (M1.out.setRow_other (uw1.heap.size) (e4 m5) (by omega))
    replace M4' := Lib.hid (M4'.out.setRow_other (uw1.heap.size) (e4 m5) (by omega))
    have M5 := Lib.hid (mZ'.out.setRow (e4 m5))
    clear mZ' hZ'
    replace HB := Lib.hid (below_setRow HB.out (uw1.heap.size) (e4 m5) (by omega))
    refine wpList_nil ?_
    have hk5 := Hgo.out m4 31 33 m5 1023 Hm4r.out hm5r rfl
    have Hk5 := Lib.hid hk5; clear hk5
    clear hm5r
    clear M4'
    go_step
    go_step
    go_step
    go_step
    (refine wpList_step (fun K hK => ?_); go_simp; (try go_bits); refine hK _ _ ?_; clear hK K)
    refine wpList_load (by rfl) 36 _ rfl (uw1.heap.size) rfl 36 (e4 m5) M5.out Try.underlying36 rfl (by rw [e4_size]; kernel_rfl) 21 rfl ?_
    (try simp only [Act.put, sI, sS, sZ])
    refine wpList_call (by rfl) rfl rfl (by rfl) ent110 (by rfl) (Hg10.out m5 hm5 _) 22 rfl ?_
    rintro e uw2 ⟨m6, hm6, hm6r, rfl, hb⟩
    replace M1 := Lib.hid (M1.out.call hb)
    replace M5 := Lib.hid (M5.out.call hb)
    replace HB := Lib.hid (held_next HB.out hb)
    refine ⟨_, rfl, ?_⟩
    clear hb
    (try simp only [Act.put, sI, sS, sZ])
    refine wpList_step (fun K hK => ?_)
    go_simp
    have hlt3 := M1.out.lt
    have hlt4 := M5.out.lt
    replace M1 := Lib.hid (M1.out.alloc (.cells (#[.int .u64 0, .int .u64 0, .int .u64 0, .int .u64 0] : Array Value) 36))
    replace M5 := Lib.hid (M5.out.alloc (.cells (#[.int .u64 0, .int .u64 0, .int .u64 0, .int .u64 0] : Array Value) 36))
    have M6 := Lib.hid (HasN.new uw2 (#[.int .u64 0, .int .u64 0, .int .u64 0, .int .u64 0] : Array Value) 36 4 rfl)
    have hsz := HB.out.size
    replace HB := Lib.hid (HB.out.alloc hsz (.cells (#[.int .u64 0, .int .u64 0, .int .u64 0, .int .u64 0] : Array Value) 36))
    refine hK _ _ ?_
    clear hK K
    first | (obtain ⟨Zq, hZ, mZ⟩ := M6.out) | (obtain ⟨Zq, hZ, mZ⟩ := M6.out.toN (e4_size _))
    clear M6
    have hZ' := Lib.hid hZ; clear hZ
    have mZ' := Lib.hid mZ; clear mZ
    refine wpList_store_row rfl 36 _ _ rfl (uw2.heap.size) _ rfl rfl 36 Zq mZ'.out (by rw [e4_size]; kernel_rfl) (hZ'.out.trans (e4_size _).symm) (row_one _ _ _) ?_
    (try simp only [Act.put, sI, sS, sZ])
    replace M1 := Lib.hid (M1.out.setRow_other (uw2.heap.size) (e4 m6) (by omega))
    replace M5 := Lib.hid (M5.out.setRow_other (uw2.heap.size) (e4 m6) (by omega))
    have M6 := Lib.hid (mZ'.out.setRow (e4 m6))
    clear mZ' hZ'
    replace HB := Lib.hid (below_setRow HB.out (uw2.heap.size) (e4 m6) (by omega))
    refine wpList_nil ?_
    have hk6 := Hgo.out m5 1023 1025 m6 1048575 Hk5.out hm6r (by decide +kernel)
    have Hk6 := Lib.hid hk6; clear hk6
    clear hm6r
    go_step
    go_step
    go_step
    refine wp_region_meet (α := Nat × Nat × Nat × Nat) (fun W0 x w' => x.2.2.2 < 115792089237316195423570985008687907853269984665640564039457584007913129639936 ∧ x.2.2.2 % PP = pwm a 1125899906842623 ∧ W0.heap.size ≤ x.1 ∧ Has w' x.1 (e4 x.2.2.2) 36 ∧ Below W0.heap.size W0 w') (fun ac x => (((((((ac.put (some 23) (.func (.func 110) #[] #[])).put (some 24) (.agg (e4 m6))).put (some 25) (.agg (e4 x.2.1))).put (some 26) (.agg (e4 x.2.2.1))).put (some 27) (.agg (e4 m5))).put (some 28) (.agg (e4 x.2.2.2))).put (some 7) (.pointer (some ⟨x.1, 0, none⟩)))) ?_ ?_
    · intro Q' hQ'
      refine wp_region_noPanic ?_
      refine wp_region_go 99 8 #[ff,ff,ff,ff,ff,ff,ff,ff] (by kernel_rfl) rfl rfl ?_
      intro W5 hW5
      rw [← hW5] at hQ'
      simp only [Act.put, List.setIfInBounds_toArray, List.set_cons_succ, List.set_cons_zero] at hQ'
      have HQ := Lib.hid hQ'; clear hQ'
      rw [← hW5] at M1 M5 M6 HB
      clear hW5
      refine go_take2 0 23 #[tt,ff,ff,ff,ff,ff,ff,ff] (v := ?uv3) rfl rfl rfl (by kernel_rfl) (Or.inl ⟨by rfl, ?uy3⟩) ((below_dr W5)) ?urest3
      case uy3 => (intro _ _; go_simp; try with_reducible rfl)
      (try simp only [sI, sS, sZ])
      refine go_take2 1 24 #[tt,tt,ff,ff,ff,ff,ff,ff] rfl rfl rfl (by kernel_rfl) (yieldsIf_load_row (by rfl) 36 _ rfl (uw2.heap.size) rfl 36 (e4 m6) (fun _ h => M6.out.below h M6.out.lt) Try.underlying36 rfl (by rw [e4_size]; kernel_rfl)) ((below_dr W5)) ?_
      (try simp only [sI, sS, sZ])
      refine go_take2 4 27 #[tt,tt,ff,ff,tt,ff,ff,ff] rfl rfl rfl (by kernel_rfl) (yieldsIf_load_row (by rfl) 36 _ rfl (uw1.heap.size) rfl 36 (e4 m5) (fun _ h => M5.out.below h M5.out.lt) Try.underlying36 rfl (by rw [e4_size]; kernel_rfl)) ((below_dr W5)) ?_
      (try simp only [sI, sS, sZ])
      refine wpBut_r2 (i := 2) (j := 6) (by kernel_rfl) ?_ ?_
      refine go_call 2 25 #[tt,tt,tt,ff,tt,ff,ff,ff] rfl rfl rfl (by rfl) rfl rfl (by rfl) ent110 (by rfl) (Hg20.out m6 hm6 _) ?_
      rintro e wW51 ⟨m7, hm7, hm7r, rfl, hb⟩
      have hkW51 := held_next (below_dr W5) hb
      refine ⟨_, rfl, fun _ => hkW51, ?_⟩
      clear hb
      (try simp only [sI, sS, sZ])
      refine wpBut_r2 (i := 3) (j := 6) (by kernel_rfl) ?_ ?_
      refine go_call 3 26 #[tt,tt,tt,tt,tt,ff,ff,ff] rfl rfl rfl (by rfl) rfl rfl (by rfl) ent83 (by rfl) (Hs10.out m7 hm7 _) ?_
      rintro e wW52 ⟨m8, hm8, hm8r, rfl, hb⟩
      have hkW52 := held_next hkW51 hb
      refine ⟨_, rfl, fun _ => hkW52, ?_⟩
      clear hb
      (try simp only [sI, sS, sZ])
      refine wpBut_r2 (i := 5) (j := 6) (by kernel_rfl) ?_ ?_
      refine go_call 5 28 #[tt,tt,tt,tt,tt,tt,ff,ff] rfl rfl rfl (by rfl) rfl rfl (by rfl) ent31 (by rfl) (Ht.out m8 m5 hm8 hm5 _) ?_
      rintro e wW53 ⟨m9, hm9, hm9r, rfl, hb⟩
      have hkW53 := held_next hkW52 hb
      refine ⟨_, rfl, fun _ => hkW53, ?_⟩
      clear hb
      (try simp only [sI, sS, sZ])
      refine wpBut_r1 (i := 6) (by kernel_rfl) ?_
      refine go_alloc 6 7 #[tt,tt,tt,tt,tt,tt,tt,ff] rfl rfl rfl (by rfl) 36 rfl _ al36 ?_
      intro wW54 hw2
      have hkW54 := (hkW53).alloc (hkW53).size (.cells z36 36)
      rw [← hw2] at hkW54
      have MA6 := Lib.hid (HasN.new (wW53) z36 36 4 (by kernel_rfl))
      rw [← hw2] at MA6
      have HA6 := Lib.hid (show W5.heap.size ≤ _ from (hkW53).size)
      clear hw2
      refine ⟨fun _ => hkW54, ?_⟩
      (try simp only [sI, sS, sZ])
      refine wpBut_r1 (i := 7) (by kernel_rfl) ?_
      obtain ⟨Zq, hZ, mZ⟩ := MA6.out
      refine go_store2 7 #[tt,tt,tt,tt,tt,tt,tt,tt] rfl rfl rfl (by rfl) 36 _ _ rfl _ _ rfl rfl 36 Zq mZ (by rw [e4_size]; kernel_rfl) (hZ.trans (e4_size ..).symm) (row_one _ _ _) ?_
      intro wW55 hw2
      have hkW55 := below_setRow (hkW54) _ (e4 m9) HA6.out
      rw [← hw2] at hkW55
      clear MA6
      have MA6 := Lib.hid (mZ.setRow (e4 m9))
      rw [← hw2] at MA6; clear mZ hZ hw2
      refine ⟨fun _ => hkW55, ?_⟩
      (try simp only [sI, sS, sZ])
      exact wpBut_done (by kernel_rfl) (NoPanic.normal (HQ.out (_, m7, m8, m9) _ ⟨hm9, Hp50.out m6 m7 m8 m5 m9 Hk6.out Hk5.out hm7r hm8r hm9r, HA6.out, MA6.out, (hkW55)⟩))
      refine go_alloc 6 7 #[tt,tt,tt,tt,tt,ff,tt,ff] rfl rfl rfl (by rfl) 36 rfl _ al36 ?_
      intro wW53 hw2
      have hkW53 := (hkW52).alloc (hkW52).size (.cells z36 36)
      rw [← hw2] at hkW53
      have MA6 := Lib.hid (HasN.new (wW52) z36 36 4 (by kernel_rfl))
      rw [← hw2] at MA6
      have HA6 := Lib.hid (show W5.heap.size ≤ _ from (hkW52).size)
      clear hw2
      refine ⟨fun _ => hkW53, ?_⟩
      (try simp only [sI, sS, sZ])
      refine wpBut_r1 (i := 5) (by kernel_rfl) ?_
      refine go_call 5 28 #[tt,tt,tt,tt,tt,tt,tt,ff] rfl rfl rfl (by rfl) rfl rfl (by rfl) ent31 (by rfl) (Ht.out m8 m5 hm8 hm5 _) ?_
      rintro e wW54 ⟨m9, hm9, hm9r, rfl, hb⟩
      have hkW54 := held_next hkW53 hb
      replace MA6 := Lib.hid (MA6.out.call hb)
      refine ⟨_, rfl, fun _ => hkW54, ?_⟩
      clear hb
      (try simp only [sI, sS, sZ])
      refine wpBut_r1 (i := 7) (by kernel_rfl) ?_
      obtain ⟨Zq, hZ, mZ⟩ := MA6.out
      refine go_store2 7 #[tt,tt,tt,tt,tt,tt,tt,tt] rfl rfl rfl (by rfl) 36 _ _ rfl _ _ rfl rfl 36 Zq mZ (by rw [e4_size]; kernel_rfl) (hZ.trans (e4_size ..).symm) (row_one _ _ _) ?_
      intro wW55 hw2
      have hkW55 := below_setRow (hkW54) _ (e4 m9) HA6.out
      rw [← hw2] at hkW55
      clear MA6
      have MA6 := Lib.hid (mZ.setRow (e4 m9))
      rw [← hw2] at MA6; clear mZ hZ hw2
      refine ⟨fun _ => hkW55, ?_⟩
      (try simp only [sI, sS, sZ])
      exact wpBut_done (by kernel_rfl) (NoPanic.normal (HQ.out (_, m7, m8, m9) _ ⟨hm9, Hp50.out m6 m7 m8 m5 m9 Hk6.out Hk5.out hm7r hm8r hm9r, HA6.out, MA6.out, (hkW55)⟩))
      refine go_alloc 6 7 #[tt,tt,tt,ff,tt,ff,tt,ff] rfl rfl rfl (by rfl) 36 rfl _ al36 ?_
      intro wW52 hw2
      have hkW52 := (hkW51).alloc (hkW51).size (.cells z36 36)
      rw [← hw2] at hkW52
      have MA6 := Lib.hid (HasN.new (wW51) z36 36 4 (by kernel_rfl))
      rw [← hw2] at MA6
      have HA6 := Lib.hid (show W5.heap.size ≤ _ from (hkW51).size)
      clear hw2
      refine ⟨fun _ => hkW52, ?_⟩
      (try simp only [sI, sS, sZ])
      refine wpBut_r1 (i := 3) (by kernel_rfl) ?_
      refine go_call 3 26 #[tt,tt,tt,tt,tt,ff,tt,ff] rfl rfl rfl (by rfl) rfl rfl (by rfl) ent83 (by rfl) (Hs10.out m7 hm7 _) ?_
      rintro e wW53 ⟨m8, hm8, hm8r, rfl, hb⟩
      have hkW53 := held_next hkW52 hb
      replace MA6 := Lib.hid (MA6.out.call hb)
      refine ⟨_, rfl, fun _ => hkW53, ?_⟩
      clear hb
      (try simp only [sI, sS, sZ])
      refine wpBut_r1 (i := 5) (by kernel_rfl) ?_
      refine go_call 5 28 #[tt,tt,tt,tt,tt,tt,tt,ff] rfl rfl rfl (by rfl) rfl rfl (by rfl) ent31 (by rfl) (Ht.out m8 m5 hm8 hm5 _) ?_
      rintro e wW54 ⟨m9, hm9, hm9r, rfl, hb⟩
      have hkW54 := held_next hkW53 hb
      replace MA6 := Lib.hid (MA6.out.call hb)
      refine ⟨_, rfl, fun _ => hkW54, ?_⟩
      clear hb
      (try simp only [sI, sS, sZ])
      refine wpBut_r1 (i := 7) (by kernel_rfl) ?_
      obtain ⟨Zq, hZ, mZ⟩ := MA6.out
      refine go_store2 7 #[tt,tt,tt,tt,tt,tt,tt,tt] rfl rfl rfl (by rfl) 36 _ _ rfl _ _ rfl rfl 36 Zq mZ (by rw [e4_size]; kernel_rfl) (hZ.trans (e4_size ..).symm) (row_one _ _ _) ?_
      intro wW55 hw2
      have hkW55 := below_setRow (hkW54) _ (e4 m9) HA6.out
      rw [← hw2] at hkW55
      clear MA6
      have MA6 := Lib.hid (mZ.setRow (e4 m9))
      rw [← hw2] at MA6; clear mZ hZ hw2
      refine ⟨fun _ => hkW55, ?_⟩
      (try simp only [sI, sS, sZ])
      exact wpBut_done (by kernel_rfl) (NoPanic.normal (HQ.out (_, m7, m8, m9) _ ⟨hm9, Hp50.out m6 m7 m8 m5 m9 Hk6.out Hk5.out hm7r hm8r hm9r, HA6.out, MA6.out, (hkW55)⟩))
      refine go_alloc 6 7 #[tt,tt,ff,ff,tt,ff,tt,ff] rfl rfl rfl (by rfl) 36 rfl _ al36 ?_
      intro wW51 hw2
      have hkW51 := ((below_dr W5)).alloc ((below_dr W5)).size (.cells z36 36)
      rw [← hw2] at hkW51
      have MA6 := Lib.hid (HasN.new (W5.drew) z36 36 4 (by kernel_rfl))
      rw [← hw2] at MA6
      have HA6 := Lib.hid (show W5.heap.size ≤ _ from ((below_dr W5)).size)
      clear hw2
      refine ⟨fun _ => hkW51, ?_⟩
      (try simp only [sI, sS, sZ])
      refine wpBut_r1 (i := 2) (by kernel_rfl) ?_
      refine go_call 2 25 #[tt,tt,tt,ff,tt,ff,tt,ff] rfl rfl rfl (by rfl) rfl rfl (by rfl) ent110 (by rfl) (Hg20.out m6 hm6 _) ?_
      rintro e wW52 ⟨m7, hm7, hm7r, rfl, hb⟩
      have hkW52 := held_next hkW51 hb
      replace MA6 := Lib.hid (MA6.out.call hb)
      refine ⟨_, rfl, fun _ => hkW52, ?_⟩
      clear hb
      (try simp only [sI, sS, sZ])
      refine wpBut_r1 (i := 3) (by kernel_rfl) ?_
      refine go_call 3 26 #[tt,tt,tt,tt,tt,ff,tt,ff] rfl rfl rfl (by rfl) rfl rfl (by rfl) ent83 (by rfl) (Hs10.out m7 hm7 _) ?_
      rintro e wW53 ⟨m8, hm8, hm8r, rfl, hb⟩
      have hkW53 := held_next hkW52 hb
      replace MA6 := Lib.hid (MA6.out.call hb)
      refine ⟨_, rfl, fun _ => hkW53, ?_⟩
      clear hb
      (try simp only [sI, sS, sZ])
      refine wpBut_r1 (i := 5) (by kernel_rfl) ?_
      refine go_call 5 28 #[tt,tt,tt,tt,tt,tt,tt,ff] rfl rfl rfl (by rfl) rfl rfl (by rfl) ent31 (by rfl) (Ht.out m8 m5 hm8 hm5 _) ?_
      rintro e wW54 ⟨m9, hm9, hm9r, rfl, hb⟩
      have hkW54 := held_next hkW53 hb
      replace MA6 := Lib.hid (MA6.out.call hb)
      refine ⟨_, rfl, fun _ => hkW54, ?_⟩
      clear hb
      (try simp only [sI, sS, sZ])
      refine wpBut_r1 (i := 7) (by kernel_rfl) ?_
      obtain ⟨Zq, hZ, mZ⟩ := MA6.out
      refine go_store2 7 #[tt,tt,tt,tt,tt,tt,tt,tt] rfl rfl rfl (by rfl) 36 _ _ rfl _ _ rfl rfl 36 Zq mZ (by rw [e4_size]; kernel_rfl) (hZ.trans (e4_size ..).symm) (row_one _ _ _) ?_
      intro wW55 hw2
      have hkW55 := below_setRow (hkW54) _ (e4 m9) HA6.out
      rw [← hw2] at hkW55
      clear MA6
      have MA6 := Lib.hid (mZ.setRow (e4 m9))
      rw [← hw2] at MA6; clear mZ hZ hw2
      refine ⟨fun _ => hkW55, ?_⟩
      (try simp only [sI, sS, sZ])
      exact wpBut_done (by kernel_rfl) (NoPanic.normal (HQ.out (_, m7, m8, m9) _ ⟨hm9, Hp50.out m6 m7 m8 m5 m9 Hk6.out Hk5.out hm7r hm8r hm9r, HA6.out, MA6.out, (hkW55)⟩))
    · rintro W5 ⟨B7, m7, m8, m9⟩ vw5 hW5 ⟨hm9, hm9r, hBq0, mBq0, hbw⟩
      simp only [Act.put, List.setIfInBounds_toArray, List.set_cons_succ, List.set_cons_zero] at hm9 hm9r hBq0  mBq0 ⊢
      rw [← hW5] at M1 M5 M6 HB
      clear hW5
      have hltM1_5 := M1.out.lt
      have hltM5_5 := M5.out.lt
      have hltM6_5 := M6.out.lt
      replace M1 := Lib.hid (M1.out.call hbw)
      replace M5 := Lib.hid (M5.out.call hbw)
      replace M6 := Lib.hid (M6.out.call hbw)
      replace HB := Lib.hid (held_next HB.out hbw)
      have M7 := Lib.hid mBq0; clear mBq0
      clear hbw
      have Hm9r := Lib.hid hm9r; clear hm9r
      clear M5 M6
      go_step
      go_step
      go_step
      go_step
      (refine wpList_step (fun K hK => ?_); go_simp; (try go_bits); refine hK _ _ ?_; clear hK K)
      refine wpList_load (by rfl) 36 _ rfl (B7) rfl 36 (e4 m9) M7.out Try.underlying36 rfl (by rw [e4_size]; kernel_rfl) 30 rfl ?_
      (try simp only [Act.put, sI, sS, sZ])
      refine wpList_call (by rfl) rfl rfl (by rfl) ent110 (by rfl) (Hg50.out m9 hm9 _) 31 rfl ?_
      rintro e uw3 ⟨m10, hm10, hm10r, rfl, hb⟩
      replace M1 := Lib.hid (M1.out.call hb)
      replace M7 := Lib.hid (M7.out.call hb)
      replace HB := Lib.hid (held_next HB.out hb)
      refine ⟨_, rfl, ?_⟩
      clear hb
      (try simp only [Act.put, sI, sS, sZ])
      refine wpList_step (fun K hK => ?_)
      go_simp
      have hlt6 := M1.out.lt
      have hlt7 := M7.out.lt
      replace M1 := Lib.hid (M1.out.alloc (.cells (#[.int .u64 0, .int .u64 0, .int .u64 0, .int .u64 0] : Array Value) 36))
      replace M7 := Lib.hid (M7.out.alloc (.cells (#[.int .u64 0, .int .u64 0, .int .u64 0, .int .u64 0] : Array Value) 36))
      have M8 := Lib.hid (HasN.new uw3 (#[.int .u64 0, .int .u64 0, .int .u64 0, .int .u64 0] : Array Value) 36 4 rfl)
      have hsz := HB.out.size
      replace HB := Lib.hid (HB.out.alloc hsz (.cells (#[.int .u64 0, .int .u64 0, .int .u64 0, .int .u64 0] : Array Value) 36))
      refine hK _ _ ?_
      clear hK K
      first | (obtain ⟨Zq, hZ, mZ⟩ := M8.out) | (obtain ⟨Zq, hZ, mZ⟩ := M8.out.toN (e4_size _))
      clear M8
      have hZ' := Lib.hid hZ; clear hZ
      have mZ' := Lib.hid mZ; clear mZ
      refine wpList_store_row rfl 36 _ _ rfl (uw3.heap.size) _ rfl rfl 36 Zq mZ'.out (by rw [e4_size]; kernel_rfl) (hZ'.out.trans (e4_size _).symm) (row_one _ _ _) ?_
      (try simp only [Act.put, sI, sS, sZ])
      replace M1 := Lib.hid (M1.out.setRow_other (uw3.heap.size) (e4 m10) (by omega))
      replace M7 := Lib.hid (M7.out.setRow_other (uw3.heap.size) (e4 m10) (by omega))
      have M8 := Lib.hid (mZ'.out.setRow (e4 m10))
      clear mZ' hZ'
      replace HB := Lib.hid (below_setRow HB.out (uw3.heap.size) (e4 m10) (by omega))
      refine wpList_nil ?_
      have hk10 := Hgo.out m9 1125899906842623 1125899906842625 m10 1267650600228229401496703205375 Hm9r.out hm10r (by decide +kernel)
      have Hk10 := Lib.hid hk10; clear hk10
      clear hm10r
      go_step
      go_step
      go_step
      refine wp_region_noPanic ?_
      refine wp_region_go 6 7 #[ff,ff,ff,ff,ff,ff,ff] (by kernel_rfl) rfl rfl ?_
      intro W8 hW8
      rw [← hW8] at M1 M7 M8 HB
      clear hW8
      have M1N := Lib.hid (by first | exact M1.out | exact M1.out.toN (by first | exact e4_size _ | exact r22_size _ | exact k32_size _ | exact pt_size .. | exact rp_size ..) : HasN W8 (w.heap.size + 1) _ _)
      refine go_take2 0 32 #[tt,ff,ff,ff,ff,ff,ff] (v := ?uv4) rfl rfl rfl (by kernel_rfl) (Or.inl ⟨by rfl, ?uy4⟩) ((below_dr W8)) ?urest4
      case uy4 => (intro _ _; go_simp; try with_reducible rfl)
      (try simp only [sI, sS, sZ])
      refine go_take2 1 33 #[tt,tt,ff,ff,ff,ff,ff] rfl rfl rfl (by kernel_rfl) (yieldsIf_load_row (by rfl) 36 _ rfl (uw3.heap.size) rfl 36 (e4 m10) (fun _ h => M8.out.below h M8.out.lt) Try.underlying36 rfl (by rw [e4_size]; kernel_rfl)) ((below_dr W8)) ?_
      (try simp only [sI, sS, sZ])
      refine go_take2 4 36 #[tt,tt,ff,ff,tt,ff,ff] rfl rfl rfl (by kernel_rfl) (yieldsIf_load_row (by rfl) 36 _ rfl (B7) rfl 36 (e4 m9) (fun _ h => M7.out.below h M7.out.lt) Try.underlying36 rfl (by rw [e4_size]; kernel_rfl)) ((below_dr W8)) ?_
      (try simp only [sI, sS, sZ])
      refine wpBut_r1 (i := 2) (by kernel_rfl) ?_
      refine go_call 2 34 #[tt,tt,tt,ff,tt,ff,ff] rfl rfl rfl (by rfl) rfl rfl (by rfl) ent110 (by rfl) (Hg100.out m10 hm10 _) ?_
      rintro e wW81 ⟨m11, hm11, hm11r, rfl, hb⟩
      have hkW81 := held_next (below_dr W8) hb
      refine ⟨_, rfl, fun _ => hkW81, ?_⟩
      clear hb
      (try simp only [sI, sS, sZ])
      refine wpBut_r1 (i := 3) (by kernel_rfl) ?_
      refine go_call 3 35 #[tt,tt,tt,tt,tt,ff,ff] rfl rfl rfl (by rfl) rfl rfl (by rfl) ent83 (by rfl) (Hs50.out m11 hm11 _) ?_
      rintro e wW82 ⟨m12, hm12, hm12r, rfl, hb⟩
      have hkW82 := held_next hkW81 hb
      refine ⟨_, rfl, fun _ => hkW82, ?_⟩
      clear hb
      (try simp only [sI, sS, sZ])
      refine wpBut_r1 (i := 5) (by kernel_rfl) ?_
      refine go_call 5 37 #[tt,tt,tt,tt,tt,tt,ff] rfl rfl rfl (by rfl) rfl rfl (by rfl) ent31 (by rfl) (Ht.out m12 m9 hm12 hm9 _) ?_
      rintro e wW83 ⟨m13, hm13, hm13r, rfl, hb⟩
      have hkW83 := held_next hkW82 hb
      refine ⟨_, rfl, fun _ => hkW83, ?_⟩
      clear hb
      (try simp only [sI, sS, sZ])
      refine wpBut_r1 (i := 6) (by kernel_rfl) ?_
      obtain ⟨Zq, hZ, mZ⟩ := M1N.out.below hkW83 M1N.out.lt
      have MZ := Lib.hid mZ; clear mZ
      have HZ := Lib.hid hZ; clear hZ
      refine go_store 6 #[tt,tt,tt,tt,tt,tt,tt] rfl rfl rfl (by rfl) 36 _ _ rfl (w.heap.size + 1) _ rfl rfl 36 Zq MZ.out (by rw [e4_size]; kernel_rfl) (HZ.out.trans (e4_size ..).symm) (row_one _ _ _) ⟨fun h => (h rfl).elim, ?_⟩
      (try simp only [sI, sS, sZ])
      refine wpBut_done (by kernel_rfl) (NoPanic.normal ?_)
      replace M7 := Lib.hid ((M7.out.call hkW83).setRow_other (w.heap.size + 1) (e4 m13) (by omega))
      replace M8 := Lib.hid ((M8.out.call hkW83).setRow_other (w.heap.size + 1) (e4 m13) (by omega))
      clear M1 M1N
      have M1 := Lib.hid (MZ.out.setRow (e4 m13)); clear MZ HZ
      replace HB := Lib.hid (below_setRow (held_next HB.out hkW83) (w.heap.size + 1) (e4 m13) (by omega))
      have hfin := Hpa.out m10 m11 m12 m9 m13 Hk10.out Hm9r.out hm11r hm12r hm13r
      have Hfin := Lib.hid hfin; clear hfin
      go_wp2_with fail
      exact bodyPost_ret (v := .agg (e4 m13)) (results_cell_row (t := 36) (by rfl) _ _ (w.heap.size + 1) _ _ _ rfl M1.out Try.underlying36 rfl (by rw [e4_size]; kernel_rfl)) rfl ⟨m13, hm13, Hfin.out, rfl, HB.out⟩
end Go.Proofs.Ytjiagjonlcadiaa
end
