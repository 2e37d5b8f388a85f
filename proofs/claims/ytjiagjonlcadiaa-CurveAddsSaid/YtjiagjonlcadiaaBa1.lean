/- The program's field and points, and the document's: what each function of theirs comes to, and the group of the points. -/
import Derived.Test.YtjiagjonlcadiaaProg
import Derived.WalkKit
import Derived.WalkSpells
import Derived.WalkLawsBesides
import Derived.Deep.QuietTactic
import Derived.BigQuiet
import Derived.Deep.RegionHeld3
import Derived.StillTailTactics
import Derived.Lib.Mul64
import Derived.Laws.Bits64b
import Derived.Laws.Externs
import Derived.Lib.Hide
import Derived.RowKit3
import Derived.LoopTactic
import Derived.Deep.LoopGhost
import Derived.Laws.Rows
import Derived.Laws.Tables
import Derived.Deep.MidRow
import Derived.OwnWalk
import Derived.Outline
import Derived.OrdersHeld
import Derived.BigRegion
import Derived.Laws.ShiftsVarLaws
import Derived.Laws.StructEq
import Derived.LoopN
section
namespace Go.Proofs.Ytjiagjonlcadiaa.Nm

/-- b to the e, modulo m, by squaring; f: bits enough. -/
def pm (m : Nat) : Nat → Nat → Nat → Nat
  | 0, _, _ => 1 % m
  | f + 1, b, e => if e % 2 = 1 then pm m f (b * b % m) (e / 2) * b % m else pm m f (b * b % m) (e / 2)

theorem pow_mod_base (b m e : Nat) : (b % m) ^ e % m = b ^ e % m := (Nat.pow_mod b e m).symm

theorem pm_eq (m f : Nat) : ∀ b e, e < 2 ^ f → pm m f b e = b ^ e % m := by
  induction f with
  | zero => intro b e h; have : e = 0 := by simpa using h
            subst this; simp [pm]
  | succ f ih =>
    intro b e h
    have h2 : e / 2 < 2 ^ f := by rw [Nat.pow_succ] at h; omega
    have e1 : (b * b % m) ^ (e / 2) % m = b ^ (2 * (e / 2)) % m := by
      rw [pow_mod_base, Nat.pow_mul, Nat.pow_two]
    unfold pm
    rw [ih _ _ h2, e1]
    split
    · rename_i ho
      have : e = 2 * (e / 2) + 1 := by omega
      conv => rhs; rw [this, Nat.pow_succ]
      rw [Nat.mod_mul_mod]
    · rename_i ho
      have : e = 2 * (e / 2) := by omega
      conv => rhs; rw [this]

/-- A prime, by Euclid's lemma. -/
def Pr (q : Nat) : Prop := 1 < q ∧ ∀ a b, q ∣ a * b → q ∣ a ∨ q ∣ b

theorem pr_of_divs {q : Nat} (h1 : 1 < q) (h : ∀ d, d ∣ q → d = 1 ∨ d = q) : Pr q := by
  refine ⟨h1, fun a b hab => ?_⟩
  rcases h (Nat.gcd q a) (Nat.gcd_dvd_left q a) with hg | hg
  · exact Or.inr (Nat.Coprime.dvd_of_dvd_mul_left hg hab)
  · exact Or.inl (hg ▸ Nat.gcd_dvd_right q a)

theorem Pr.divs {q : Nat} (h : Pr q) {d : Nat} (hd : d ∣ q) : d = 1 ∨ d = q := by
  obtain ⟨h1, h⟩ := h
  obtain ⟨e, he⟩ := hd
  have h0 : q ∣ d * e := he ▸ Nat.dvd_refl q
  rcases h d e h0 with hh | hh
  · right; exact Nat.dvd_antisymm ⟨e, he⟩ hh
  · left
    have : e = q := Nat.dvd_antisymm ⟨d, by rw [he, Nat.mul_comm]⟩ hh
    subst this
    have : d * e = 1 * e := by omega
    exact Nat.eq_of_mul_eq_mul_right (by omega) this

/-- No divisor among d, d + 1, .. (so many). -/
def noDiv (n : Nat) : Nat → Nat → Bool
  | 0, _ => true
  | f + 1, d => n % d != 0 && noDiv n f (d + 1)

theorem noDiv_spec (n : Nat) : ∀ f d, noDiv n f d = true → ∀ k, d ≤ k → k < d + f → ¬ k ∣ n := by
  intro f
  induction f with
  | zero => intro d _ k h1 h2; omega
  | succ f ih =>
    intro d h k h1 h2
    simp only [noDiv, Bool.and_eq_true, bne_iff_ne] at h
    by_cases hk : k = d
    · subst hk; intro hd; exact h.1 (Nat.mod_eq_zero_of_dvd hd)
    · exact ih (d + 1) h.2 k (by omega) (by omega)

theorem pr_trial {n f : Nat} (h1 : 1 < n) (hf : n < (f + 2) * (f + 2)) (h : noDiv n f 2 = true) : Pr n := by
  have key := noDiv_spec n f 2 h
  refine pr_of_divs h1 fun d hd => ?_
  obtain ⟨e, he⟩ := hd
  have he0 : 0 < e := by
    rcases Nat.eq_zero_or_pos e with h0 | h0
    · subst h0; omega
    · exact h0
  have hd0 : 0 < d := by
    rcases Nat.eq_zero_or_pos d with h0 | h0
    · subst h0; omega
    · exact h0
  by_cases hd1 : d = 1
  · exact Or.inl hd1
  by_cases he1 : e = 1
  · right; subst he1; omega
  exfalso
  by_cases hdl : d < f + 2
  · exact key d (by omega) (by omega) ⟨e, he⟩
  · by_cases hel : e < f + 2
    · exact key e (by omega) (by omega) ⟨d, by rw [he, Nat.mul_comm]⟩
    · have : (f + 2) * (f + 2) ≤ d * e := Nat.mul_le_mul (by omega) (by omega)
      omega

def prod : List Nat → Nat
  | [] => 1
  | q :: l => q * prod l

theorem exists_factor (l : List Nat) (hl : ∀ q ∈ l, Pr q) (k : Nat) (hk : k ∣ prod l) (h1 : k ≠ 1) : ∃ q ∈ l, q ∣ k := by
  induction l generalizing k with
  | nil => exact absurd (Nat.dvd_one.1 hk) h1
  | cons q l ih =>
    rcases (hl q (by simp)).divs (Nat.gcd_dvd_right k q) with hg | hg
    · have : k ∣ prod l := Nat.Coprime.dvd_of_dvd_mul_left hg hk
      obtain ⟨r, hr, hrk⟩ := ih (fun r hr => hl r (by simp [hr])) k this h1
      exact ⟨r, by simp [hr], hrk⟩
    · exact ⟨q, by simp, hg ▸ Nat.gcd_dvd_left k q⟩

theorem least_of (p : Nat → Prop) (n : Nat) (hn : p n) : ∃ m, p m ∧ ∀ k, k < m → ¬ p k := by
  induction n using Nat.strongRecOn with
  | _ n ih =>
    by_cases h : ∃ k, k < n ∧ p k
    · obtain ⟨k, hk, hpk⟩ := h
      exact ih k hk hpk
    · exact ⟨n, hn, fun k hk hp => h ⟨k, hk, hp⟩⟩

theorem pigeon (N : Nat) : ∀ f : Nat → Nat, (∀ i, i < N → f i < N) → (∀ i j, i < N → j < N → f i = f j → i = j) → ∀ y, y < N → ∃ i, i < N ∧ f i = y := by
  induction N with
  | zero => intro f _ _ y hy; omega
  | succ N ih =>
    intro f hr hi y hy
    have hr' : ∀ i, i < N → (if f i = N then f N else f i) < N := by
      intro i hiN
      split
      · rename_i h
        have h1 := hr N (by omega)
        have h2 : f N ≠ N := fun h3 => by have := hi i N (by omega) (by omega) (by omega); omega
        omega
      · have := hr i (by omega); omega
    have hi' : ∀ i j, i < N → j < N → (if f i = N then f N else f i) = (if f j = N then f N else f j) → i = j := by
      intro i j h1 h2 h
      split at h <;> split at h
      · exact hi i j (by omega) (by omega) (by omega)
      · have := hi N j (by omega) (by omega) h; omega
      · have := hi i N (by omega) (by omega) h; omega
      · exact hi i j (by omega) (by omega) h
    have H := ih (fun i => if f i = N then f N else f i) hr' hi'
    by_cases hv : y = f N
    · exact ⟨N, by omega, hv.symm⟩
    by_cases hyN : y = N
    · subst hyN
      have hfN : f y < y := by have := hr y (by omega); omega
      obtain ⟨i, hiN, he⟩ := H (f y) hfN
      split at he
      · exact ⟨i, by omega, by assumption⟩
      · have := hi i y (by omega) (by omega) he; omega
    · obtain ⟨i, hiN, he⟩ := H y (by omega)
      split at he
      · exact absurd he.symm hv
      · exact ⟨i, by omega, he⟩

theorem mod_one_of {n x y : Nat} (h : x % n = 1) (h' : (x * y) % n = 1) : y % n = 1 := by
  have : (x % n * y) % n = 1 := by rw [Nat.mod_mul_mod]; exact h'
  rw [h, Nat.one_mul] at this
  exact this

/-- What Lucas's test gives: the powers of g are all that there is. -/
structure Gen (n g : Nat) : Prop where
  one : 1 < n
  flt : g ^ (n - 1) % n = 1
  all : ∀ a, 0 < a → a < n → ∃ i, i < n - 1 ∧ g ^ i % n = a

theorem lucas {n g : Nat} (l : List Nat) (h1 : 1 < n) (hl : ∀ q ∈ l, Pr q) (hp : prod l = n - 1) (hg : g ^ (n - 1) % n = 1)
    (hq : ∀ q ∈ l, g ^ ((n - 1) / q) % n ≠ 1) : Gen n g := by
  -- the order
  obtain ⟨m, ⟨hm0, hm1⟩, hmin⟩ := least_of (fun m => 0 < m ∧ g ^ m % n = 1) (n - 1) ⟨by omega, hg⟩
  have hpowmul : ∀ k, g ^ (m * k) % n = 1 := by
    intro k
    rw [Nat.pow_mul, Nat.pow_mod, hm1, Nat.one_pow, Nat.mod_eq_of_lt h1]
  have hdiv : ∀ k, g ^ k % n = 1 → m ∣ k := by
    intro k hk
    have e1 : g ^ k = g ^ (m * (k / m)) * g ^ (k % m) := by rw [← Nat.pow_add, Nat.div_add_mod]
    have e2 : g ^ (k % m) % n = 1 := mod_one_of (hpowmul (k / m)) (by rw [← e1]; exact hk)
    have hlt := Nat.mod_lt k hm0
    by_cases hz : k % m = 0
    · exact Nat.dvd_of_mod_eq_zero hz
    · exact absurd ⟨by omega, e2⟩ (hmin _ hlt)
  have hmn : m = n - 1 := by
    obtain ⟨k, hk⟩ := hdiv _ hg
    by_cases hk1 : k = 1
    · subst hk1; omega
    obtain ⟨q, hql, c, hc⟩ := exists_factor l hl k ⟨m, by rw [hp, hk, Nat.mul_comm]⟩ hk1
    exfalso
    have hq1 := (hl q hql).1
    have : (n - 1) / q = m * c := by
      rw [hk, hc, show m * (q * c) = q * (m * c) by ac_rfl]
      exact Nat.mul_div_cancel_left _ (by omega)
    exact hq q hql (by rw [this]; exact hpowmul c)
  subst hmn
  have hinv : ∀ i, i ≤ n - 1 → (g ^ i * g ^ (n - 1 - i)) % n = 1 := by
    intro i hi
    rw [← Nat.pow_add, show i + (n - 1 - i) = n - 1 by omega]; exact hg
  have hnz : ∀ i, i < n - 1 → 0 < g ^ i % n := by
    intro i hi
    rcases Nat.eq_zero_or_pos (g ^ i % n) with h0 | h0
    · have := hinv i (by omega)
      rw [← Nat.mod_mul_mod, h0, Nat.zero_mul, Nat.zero_mod] at this
      omega
    · exact h0
  have hinj : ∀ i j, i < j → j < n - 1 → g ^ i % n = g ^ j % n → False := by
    intro i j hij hj he
    have h2 : (g ^ j * g ^ (n - 1 - i)) % n = 1 := by
      rw [← Nat.mod_mul_mod, ← he, Nat.mod_mul_mod]; exact hinv i (by omega)
    have e1 : g ^ j * g ^ (n - 1 - i) = g ^ (n - 1) * g ^ (j - i) := by
      rw [← Nat.pow_add, ← Nat.pow_add]; congr 1; omega
    rw [e1] at h2
    exact hmin (j - i) (by omega) ⟨by omega, mod_one_of hg h2⟩
  refine ⟨h1, hg, fun a ha0 han => ?_⟩
  obtain ⟨i, hi, he⟩ := pigeon (n - 1) (fun i => g ^ i % n - 1) (fun i hi => by
      have := hnz i hi; have := Nat.mod_lt (g ^ i) (show 0 < n by omega); omega) (fun i j hi hj h => by
      have h1 := hnz i hi
      have h2 := hnz j hj
      have h3 : g ^ i % n = g ^ j % n := by omega
      rcases Nat.lt_trichotomy i j with hh | hh | hh
      · exact (hinj i j hh hj h3).elim
      · exact hh
      · exact (hinj j i hh hi h3.symm).elim) (a - 1) (by omega)
  exact ⟨i, hi, by have := hnz i hi; omega⟩

theorem Gen.pr {n g : Nat} (h : Gen n g) : Pr n := by
  obtain ⟨h1, hg, hall⟩ := h
  refine ⟨h1, fun a b hab => ?_⟩
  by_cases ha : a % n = 0
  · exact Or.inl (Nat.dvd_of_mod_eq_zero ha)
  right
  obtain ⟨i, hi, he⟩ := hall (a % n) (by omega) (Nat.mod_lt _ (by omega))
  have hb : (g ^ (n - 1 - i) * a) % n = 1 := by
    rw [Nat.mul_comm, ← Nat.mod_mul_mod, ← he, Nat.mod_mul_mod, ← Nat.pow_add, show i + (n - 1 - i) = n - 1 by omega]; exact hg
  have h2 : (g ^ (n - 1 - i) * a * b) % n = 0 := by
    rw [Nat.mul_assoc]; exact Nat.mod_eq_zero_of_dvd (Nat.dvd_trans hab ⟨g ^ (n - 1 - i), by ac_rfl⟩)
  rw [← Nat.mod_mul_mod, hb, Nat.one_mul] at h2
  exact Nat.dvd_of_mod_eq_zero h2

/-- The little theorem. -/
theorem Gen.little {n g : Nat} (h : Gen n g) (a : Nat) (ha : a % n ≠ 0) : a ^ (n - 1) % n = 1 := by
  obtain ⟨h1, hg, hall⟩ := h
  obtain ⟨i, _, he⟩ := hall (a % n) (by omega) (Nat.mod_lt _ (by omega))
  rw [← pow_mod_base, ← he, pow_mod_base, ← Nat.pow_mul, Nat.mul_comm, Nat.pow_mul, ← pow_mod_base, hg, Nat.one_pow, Nat.mod_eq_of_lt h1]

theorem lucas_pm {n g : Nat} (l : List Nat) (h1 : 1 < n) (hn : n < 2 ^ 256) (hl : ∀ q ∈ l, Pr q) (hp : prod l = n - 1) (hg : pm n 256 g (n - 1) = 1)
    (hq : l.all (fun q => pm n 256 g ((n - 1) / q) != 1) = true) : Gen n g := by
  refine lucas l h1 hl hp (by rw [← pm_eq n 256 g (n - 1) (by omega)]; exact hg) fun q hql => ?_
  have := List.all_eq_true.1 hq q hql
  have hlt : (n - 1) / q < 2 ^ 256 := Nat.lt_of_le_of_lt (Nat.div_le_self _ _) (by omega)
  rw [pm_eq n 256 g _ hlt] at this
  simpa using this

theorem pr_2 : Pr 2 := pr_trial (f := 0) (by decide) (by decide) (by decide +kernel)
theorem pr_3 : Pr 3 := pr_trial (f := 0) (by decide) (by decide) (by decide +kernel)
theorem pr_65147 : Pr 65147 := pr_trial (f := 254) (by decide) (by decide) (by decide +kernel)
theorem pr_353 : Pr 353 := pr_trial (f := 17) (by decide) (by decide) (by decide +kernel)
theorem pr_57467 : Pr 57467 := pr_trial (f := 238) (by decide) (by decide) (by decide +kernel)
theorem pr_132049 : Pr 132049 := pr_trial (f := 362) (by decide) (by decide) (by decide +kernel)
theorem pr_1923133 : Pr 1923133 := pr_trial (f := 1385) (by decide) (by decide) (by decide +kernel)
theorem pr_31 : Pr 31 := pr_trial (f := 4) (by decide) (by decide) (by decide +kernel)
theorem pr_107 : Pr 107 := pr_trial (f := 9) (by decide) (by decide) (by decide +kernel)
theorem pr_223 : Pr 223 := pr_trial (f := 13) (by decide) (by decide) (by decide +kernel)
theorem pr_4153 : Pr 4153 := pr_trial (f := 63) (by decide) (by decide) (by decide +kernel)
theorem pr_430751 : Pr 430751 := pr_trial (f := 655) (by decide) (by decide) (by decide +kernel)
theorem gen_31757755568855353 : Gen 31757755568855353 10 := by
  refine lucas_pm [2, 2, 2, 3, 31, 107, 223, 4153, 430751] (by decide) (by decide) ?_ (by decide +kernel) (by decide +kernel) (by decide +kernel)
  intro q hq
  simp only [List.mem_cons, List.not_mem_nil, or_false] at hq
  rcases hq with rfl | rfl | rfl | rfl | rfl | rfl | rfl | rfl | rfl
  · exact pr_2
  · exact pr_2
  · exact pr_2
  · exact pr_3
  · exact pr_31
  · exact pr_107
  · exact pr_223
  · exact pr_4153
  · exact pr_430751
theorem pr_31757755568855353 : Pr 31757755568855353 := gen_31757755568855353.pr
theorem pr_5 : Pr 5 := pr_trial (f := 1) (by decide) (by decide) (by decide +kernel)
theorem pr_75707 : Pr 75707 := pr_trial (f := 274) (by decide) (by decide) (by decide +kernel)
theorem pr_13 : Pr 13 := pr_trial (f := 2) (by decide) (by decide) (by decide +kernel)
theorem pr_2437 : Pr 2437 := pr_trial (f := 48) (by decide) (by decide) (by decide +kernel)
theorem pr_569003 : Pr 569003 := pr_trial (f := 753) (by decide) (by decide) (by decide +kernel)
theorem gen_2773320623 : Gen 2773320623 5 := by
  refine lucas_pm [2, 2437, 569003] (by decide) (by decide) ?_ (by decide +kernel) (by decide +kernel) (by decide +kernel)
  intro q hq
  simp only [List.mem_cons, List.not_mem_nil, or_false] at hq
  rcases hq with rfl | rfl | rfl
  · exact pr_2
  · exact pr_2437
  · exact pr_569003
theorem pr_2773320623 : Pr 2773320623 := gen_2773320623.pr
theorem gen_72106336199 : Gen 72106336199 7 := by
  refine lucas_pm [2, 13, 2773320623] (by decide) (by decide) ?_ (by decide +kernel) (by decide +kernel) (by decide +kernel)
  intro q hq
  simp only [List.mem_cons, List.not_mem_nil, or_false] at hq
  rcases hq with rfl | rfl | rfl
  · exact pr_2
  · exact pr_13
  · exact pr_2773320623
theorem pr_72106336199 : Pr 72106336199 := gen_72106336199.pr
theorem pr_7 : Pr 7 := pr_trial (f := 1) (by decide) (by decide) (by decide +kernel)
theorem pr_19 : Pr 19 := pr_trial (f := 3) (by decide) (by decide) (by decide +kernel)
theorem pr_47 : Pr 47 := pr_trial (f := 5) (by decide) (by decide) (by decide +kernel)
theorem pr_127 : Pr 127 := pr_trial (f := 10) (by decide) (by decide) (by decide +kernel)
theorem pr_103 : Pr 103 := pr_trial (f := 9) (by decide) (by decide) (by decide +kernel)
theorem pr_991 : Pr 991 := pr_trial (f := 30) (by decide) (by decide) (by decide +kernel)
theorem gen_8574133 : Gen 8574133 2 := by
  refine lucas_pm [2, 2, 3, 7, 103, 991] (by decide) (by decide) ?_ (by decide +kernel) (by decide +kernel) (by decide +kernel)
  intro q hq
  simp only [List.mem_cons, List.not_mem_nil, or_false] at hq
  rcases hq with rfl | rfl | rfl | rfl | rfl | rfl
  · exact pr_2
  · exact pr_2
  · exact pr_3
  · exact pr_7
  · exact pr_103
  · exact pr_991
theorem pr_8574133 : Pr 8574133 := gen_8574133.pr
theorem gen_1919519569386763 : Gen 1919519569386763 2 := by
  refine lucas_pm [2, 3, 7, 19, 47, 47, 127, 8574133] (by decide) (by decide) ?_ (by decide +kernel) (by decide +kernel) (by decide +kernel)
  intro q hq
  simp only [List.mem_cons, List.not_mem_nil, or_false] at hq
  rcases hq with rfl | rfl | rfl | rfl | rfl | rfl | rfl | rfl
  · exact pr_2
  · exact pr_3
  · exact pr_7
  · exact pr_19
  · exact pr_47
  · exact pr_47
  · exact pr_127
  · exact pr_8574133
theorem pr_1919519569386763 : Pr 1919519569386763 := gen_1919519569386763.pr
theorem gen_75445702479781427272750846543864801 : Gen 75445702479781427272750846543864801 7 := by
  refine lucas_pm [2, 2, 2, 2, 2, 3, 3, 5, 5, 75707, 72106336199, 1919519569386763] (by decide) (by decide) ?_ (by decide +kernel) (by decide +kernel) (by decide +kernel)
  intro q hq
  simp only [List.mem_cons, List.not_mem_nil, or_false] at hq
  rcases hq with rfl | rfl | rfl | rfl | rfl | rfl | rfl | rfl | rfl | rfl | rfl | rfl
  · exact pr_2
  · exact pr_2
  · exact pr_2
  · exact pr_2
  · exact pr_2
  · exact pr_3
  · exact pr_3
  · exact pr_5
  · exact pr_5
  · exact pr_75707
  · exact pr_72106336199
  · exact pr_1919519569386763
theorem pr_75445702479781427272750846543864801 : Pr 75445702479781427272750846543864801 := gen_75445702479781427272750846543864801.pr
theorem gen_74058212732561358302231226437062788676166966415465897661863160754340907 : Gen 74058212732561358302231226437062788676166966415465897661863160754340907 2 := by
  refine lucas_pm [2, 3, 353, 57467, 132049, 1923133, 31757755568855353, 75445702479781427272750846543864801] (by decide) (by decide) ?_ (by decide +kernel) (by decide +kernel) (by decide +kernel)
  intro q hq
  simp only [List.mem_cons, List.not_mem_nil, or_false] at hq
  rcases hq with rfl | rfl | rfl | rfl | rfl | rfl | rfl | rfl
  · exact pr_2
  · exact pr_3
  · exact pr_353
  · exact pr_57467
  · exact pr_132049
  · exact pr_1923133
  · exact pr_31757755568855353
  · exact pr_75445702479781427272750846543864801
theorem pr_74058212732561358302231226437062788676166966415465897661863160754340907 : Pr 74058212732561358302231226437062788676166966415465897661863160754340907 := gen_74058212732561358302231226437062788676166966415465897661863160754340907.pr
theorem gen_P : Gen 57896044618658097711785492504343953926634992332820282019728792003956564819949 2 := by
  refine lucas_pm [2, 2, 3, 65147, 74058212732561358302231226437062788676166966415465897661863160754340907] (by decide) (by decide) ?_ (by decide +kernel) (by decide +kernel) (by decide +kernel)
  intro q hq
  simp only [List.mem_cons, List.not_mem_nil, or_false] at hq
  rcases hq with rfl | rfl | rfl | rfl | rfl
  · exact pr_2
  · exact pr_2
  · exact pr_3
  · exact pr_65147
  · exact pr_74058212732561358302231226437062788676166966415465897661863160754340907
theorem pr_P : Pr 57896044618658097711785492504343953926634992332820282019728792003956564819949 := gen_P.pr
end Go.Proofs.Ytjiagjonlcadiaa.Nm
end
section
namespace Go.Proofs.Ytjiagjonlcadiaa

/-- what is asked of the field -/
structure Fld (n : Nat) [NeZero n] (d : Fin n) (i : Fin n) (inv : Fin n → Fin n) : Prop where
  dom : ∀ a b : Fin n, a * b = 0 → a = 0 ∨ b = 0
  one : (1 : Fin n) ≠ 0
  two : (1 : Fin n) + 1 ≠ 0
  root : i * i = -1
  non : ∀ s t : Fin n, s * s = d * (t * t) → t = 0
  inv : ∀ a : Fin n, a ≠ 0 → a * inv a = 1

variable {n : Nat} [NeZero n] {d i : Fin n} {inv : Fin n → Fin n}
/-- a point of the curve -/
def On (d x y : Fin n) : Prop := y * y - x * x = 1 + d * x * x * y * y

theorem Fld.eps (F : Fld n d i inv) (x1 y1 x2 y2 e : Fin n) (h1 : On d x1 y1) (h2 : On d x2 y2) (he : e = d * x1 * x2 * y1 * y2) : e * e ≠ 1 := by
  intro hee
  unfold On at h1 h2
  have hr := F.root
  have hp : (i * x1 + e * y1) * (i * x1 + e * y1) = d * ((x1 * y1 * (i * x2 + y2)) * (x1 * y1 * (i * x2 + y2))) := by grind
  have hm : (i * x1 - e * y1) * (i * x1 - e * y1) = d * ((x1 * y1 * (i * x2 - y2)) * (x1 * y1 * (i * x2 - y2))) := by grind
  have tp := F.non _ _ hp
  have tm := F.non _ _ hm
  have hy : (1 + 1) * (x1 * y1 * y2) = 0 := by grind
  have hz : x1 * y1 * y2 = 0 := (F.dom _ _ hy).resolve_left F.two
  have h0 : e = 0 := by grind
  apply F.one
  grind
theorem Fld.plus_ne (F : Fld n d i inv) (x1 y1 x2 y2 : Fin n) (h1 : On d x1 y1) (h2 : On d x2 y2) : 1 + d * x1 * x2 * y1 * y2 ≠ 0 := by
  intro h
  refine F.eps x1 y1 x2 y2 _ h1 h2 rfl ?_
  grind
theorem Fld.minus_ne (F : Fld n d i inv) (x1 y1 x2 y2 : Fin n) (h1 : On d x1 y1) (h2 : On d x2 y2) : 1 - d * x1 * x2 * y1 * y2 ≠ 0 := by
  intro h
  refine F.eps x1 y1 x2 y2 _ h1 h2 rfl ?_
  grind
/-- the sum's coordinates -/
def sx (inv : Fin n → Fin n) (d x1 y1 x2 y2 : Fin n) : Fin n := (x1 * y2 + x2 * y1) * inv (1 + d * x1 * x2 * y1 * y2)
def sy (inv : Fin n → Fin n) (d x1 y1 x2 y2 : Fin n) : Fin n := (y1 * y2 + x1 * x2) * inv (1 - d * x1 * x2 * y1 * y2)
theorem Fld.cancel (F : Fld n d i inv) (a b c : Fin n) (hc : c ≠ 0) (h : a * c = b * c) : a = b := by
  have h0 : (a - b) * c = 0 := by grind
  have := (F.dom _ _ h0).resolve_right hc
  grind
theorem Fld.sx_eq (F : Fld n d i inv) (x1 y1 x2 y2 : Fin n) (h1 : On d x1 y1) (h2 : On d x2 y2) : sx inv d x1 y1 x2 y2 * (1 + d * x1 * x2 * y1 * y2) = x1 * y2 + x2 * y1 := by
  have := F.inv _ (F.plus_ne x1 y1 x2 y2 h1 h2)
  unfold sx; grind
theorem Fld.sy_eq (F : Fld n d i inv) (x1 y1 x2 y2 : Fin n) (h1 : On d x1 y1) (h2 : On d x2 y2) : sy inv d x1 y1 x2 y2 * (1 - d * x1 * x2 * y1 * y2) = y1 * y2 + x1 * x2 := by
  have := F.inv _ (F.minus_ne x1 y1 x2 y2 h1 h2)
  unfold sy; grind
theorem on_poly (x1 y1 x2 y2 : Fin n) (h1 : On d x1 y1) (h2 : On d x2 y2) :
    (y1 * y2 + x1 * x2) * (y1 * y2 + x1 * x2) * ((1 + d * x1 * x2 * y1 * y2) * (1 + d * x1 * x2 * y1 * y2)) - (x1 * y2 + x2 * y1) * (x1 * y2 + x2 * y1) * ((1 - d * x1 * x2 * y1 * y2) * (1 - d * x1 * x2 * y1 * y2))
      = (1 + d * x1 * x2 * y1 * y2) * (1 + d * x1 * x2 * y1 * y2) * ((1 - d * x1 * x2 * y1 * y2) * (1 - d * x1 * x2 * y1 * y2)) + d * ((x1 * y2 + x2 * y1) * (x1 * y2 + x2 * y1)) * ((y1 * y2 + x1 * x2) * (y1 * y2 + x1 * x2)) := by
  unfold On at h1 h2
  grind
theorem Fld.on_sum (F : Fld n d i inv) (x1 y1 x2 y2 : Fin n) (h1 : On d x1 y1) (h2 : On d x2 y2) : On d (sx inv d x1 y1 x2 y2) (sy inv d x1 y1 x2 y2) := by
  have hp := F.plus_ne x1 y1 x2 y2 h1 h2
  have hm := F.minus_ne x1 y1 x2 y2 h1 h2
  have ex := F.sx_eq x1 y1 x2 y2 h1 h2
  have ey := F.sy_eq x1 y1 x2 y2 h1 h2
  have hq := on_poly x1 y1 x2 y2 h1 h2
  generalize sx inv d x1 y1 x2 y2 = X at *
  generalize sy inv d x1 y1 x2 y2 = Y at *
  generalize 1 + d * x1 * x2 * y1 * y2 = P at *
  generalize 1 - d * x1 * x2 * y1 * y2 = M at *
  rw [← ex, ← ey] at hq
  have hpm : P * P * (M * M) ≠ 0 := by
    intro h
    rcases F.dom _ _ h with h | h <;> rcases F.dom _ _ h with h | h <;> contradiction
  unfold On
  refine F.cancel _ _ (P * P * (M * M)) hpm ?_
  grind
theorem x_poly (x1 y1 x2 y2 x3 y3 : Fin n) (h1 : On d x1 y1) (h2 : On d x2 y2) (h3 : On d x3 y3) :
  ((x1*y2+x2*y1)*(1-d*x1*x2*y1*y2)*y3 + x3*((y1*y2+x1*x2)*(1+d*x1*x2*y1*y2))) * ((1+d*x2*x3*y2*y3)*(1-d*x2*x3*y2*y3) + d*x1*y1*((x2*y3+x3*y2)*(y2*y3+x2*x3)))
  = (x1*((y2*y3+x2*x3)*(1+d*x2*x3*y2*y3)) + (x2*y3+x3*y2)*(1-d*x2*x3*y2*y3)*y1) * ((1+d*x1*x2*y1*y2)*(1-d*x1*x2*y1*y2) + d*x3*y3*((x1*y2+x2*y1)*(y1*y2+x1*x2))) := by
  unfold On at h1 h2 h3
  grind
theorem y_poly (x1 y1 x2 y2 x3 y3 : Fin n) (h1 : On d x1 y1) (h2 : On d x2 y2) (h3 : On d x3 y3) :
  ((y1*y2+x1*x2)*(1+d*x1*x2*y1*y2)*y3 + x3*((x1*y2+x2*y1)*(1-d*x1*x2*y1*y2))) * ((1+d*x2*x3*y2*y3)*(1-d*x2*x3*y2*y3) - d*x1*y1*((x2*y3+x3*y2)*(y2*y3+x2*x3)))
  = (y1*((y2*y3+x2*x3)*(1+d*x2*x3*y2*y3)) + (x2*y3+x3*y2)*(1-d*x2*x3*y2*y3)*x1) * ((1+d*x1*x2*y1*y2)*(1-d*x1*x2*y1*y2) - d*x3*y3*((x1*y2+x2*y1)*(y1*y2+x1*x2))) := by
  unfold On at h1 h2 h3
  grind
theorem frac_xl (x12 y12 x3 y3 P M Nx Ny X : Fin n) (hx : x12 * P = Nx) (hy : y12 * M = Ny) (h : X * (1 + d * x12 * x3 * y12 * y3) = x12 * y3 + x3 * y12) : X * (P * M + d * x3 * y3 * (Nx * Ny)) = Nx * M * y3 + x3 * (Ny * P) := by
  grind
theorem frac_xr (x23 y23 x1 y1 P M Nx Ny X : Fin n) (hx : x23 * P = Nx) (hy : y23 * M = Ny) (h : X * (1 + d * x1 * x23 * y1 * y23) = x1 * y23 + x23 * y1) : X * (P * M + d * x1 * y1 * (Nx * Ny)) = x1 * (Ny * P) + Nx * M * y1 := by
  grind
theorem frac_yl (x12 y12 x3 y3 P M Nx Ny Y : Fin n) (hx : x12 * P = Nx) (hy : y12 * M = Ny) (h : Y * (1 - d * x12 * x3 * y12 * y3) = y12 * y3 + x12 * x3) : Y * (P * M - d * x3 * y3 * (Nx * Ny)) = Ny * P * y3 + x3 * (Nx * M) := by
  grind
theorem frac_yr (x23 y23 x1 y1 P M Nx Ny Y : Fin n) (hx : x23 * P = Nx) (hy : y23 * M = Ny) (h : Y * (1 - d * x1 * x23 * y1 * y23) = y1 * y23 + x1 * x23) : Y * (P * M - d * x1 * y1 * (Nx * Ny)) = y1 * (Ny * P) + Nx * M * x1 := by
  grind
theorem den_pl (x12 y12 x3 y3 P M Nx Ny : Fin n) (hx : x12 * P = Nx) (hy : y12 * M = Ny) : P * M + d * x3 * y3 * (Nx * Ny) = P * M * (1 + d * x12 * x3 * y12 * y3) := by grind
theorem den_ml (x12 y12 x3 y3 P M Nx Ny : Fin n) (hx : x12 * P = Nx) (hy : y12 * M = Ny) : P * M - d * x3 * y3 * (Nx * Ny) = P * M * (1 - d * x12 * x3 * y12 * y3) := by grind
theorem den_pr (x23 y23 x1 y1 P M Nx Ny : Fin n) (hx : x23 * P = Nx) (hy : y23 * M = Ny) : P * M + d * x1 * y1 * (Nx * Ny) = P * M * (1 + d * x1 * x23 * y1 * y23) := by grind
theorem den_mr (x23 y23 x1 y1 P M Nx Ny : Fin n) (hx : x23 * P = Nx) (hy : y23 * M = Ny) : P * M - d * x1 * y1 * (Nx * Ny) = P * M * (1 - d * x1 * x23 * y1 * y23) := by grind
theorem Fld.mul_ne (F : Fld n d i inv) {a b : Fin n} (ha : a ≠ 0) (hb : b ≠ 0) : a * b ≠ 0 := fun h => (F.dom _ _ h).elim ha hb
theorem Fld.cross (F : Fld n d i inv) (X X' DL DR NL NR : Fin n) (hl : X * DL = NL) (hr : X' * DR = NR) (h : NL * DR = NR * DL) (h1 : DL ≠ 0) (h2 : DR ≠ 0) : X = X' := by
  refine F.cancel _ _ (DL * DR) (F.mul_ne h1 h2) ?_
  grind

theorem Fld.assoc_x (F : Fld n d i inv) (x1 y1 x2 y2 x3 y3 : Fin n) (h1 : On d x1 y1) (h2 : On d x2 y2) (h3 : On d x3 y3) :
    sx inv d (sx inv d x1 y1 x2 y2) (sy inv d x1 y1 x2 y2) x3 y3 = sx inv d x1 y1 (sx inv d x2 y2 x3 y3) (sy inv d x2 y2 x3 y3) := by
  have o12 := F.on_sum x1 y1 x2 y2 h1 h2
  have o23 := F.on_sum x2 y2 x3 y3 h2 h3
  have el := F.sx_eq _ _ x3 y3 o12 h3
  have er := F.sx_eq x1 y1 _ _ h1 o23
  have dl := F.plus_ne _ _ x3 y3 o12 h3
  have dr := F.plus_ne x1 y1 _ _ h1 o23
  have ax := F.sx_eq x1 y1 x2 y2 h1 h2
  have ay := F.sy_eq x1 y1 x2 y2 h1 h2
  have bx := F.sx_eq x2 y2 x3 y3 h2 h3
  have by' := F.sy_eq x2 y2 x3 y3 h2 h3
  have p12 := F.plus_ne x1 y1 x2 y2 h1 h2
  have m12 := F.minus_ne x1 y1 x2 y2 h1 h2
  have p23 := F.plus_ne x2 y2 x3 y3 h2 h3
  have m23 := F.minus_ne x2 y2 x3 y3 h2 h3
  have hq := x_poly x1 y1 x2 y2 x3 y3 h1 h2 h3
  refine F.cross _ _ _ _ _ _ (frac_xl _ _ x3 y3 _ _ _ _ _ ax ay el) (frac_xr _ _ x1 y1 _ _ _ _ _ bx by' er) hq ?_ ?_
  · rw [den_pl _ _ x3 y3 _ _ _ _ ax ay]; exact F.mul_ne (F.mul_ne p12 m12) dl
  · rw [den_pr _ _ x1 y1 _ _ _ _ bx by']; exact F.mul_ne (F.mul_ne p23 m23) dr
theorem Fld.assoc_y (F : Fld n d i inv) (x1 y1 x2 y2 x3 y3 : Fin n) (h1 : On d x1 y1) (h2 : On d x2 y2) (h3 : On d x3 y3) :
    sy inv d (sx inv d x1 y1 x2 y2) (sy inv d x1 y1 x2 y2) x3 y3 = sy inv d x1 y1 (sx inv d x2 y2 x3 y3) (sy inv d x2 y2 x3 y3) := by
  have o12 := F.on_sum x1 y1 x2 y2 h1 h2
  have o23 := F.on_sum x2 y2 x3 y3 h2 h3
  have el := F.sy_eq _ _ x3 y3 o12 h3
  have er := F.sy_eq x1 y1 _ _ h1 o23
  have dl := F.minus_ne _ _ x3 y3 o12 h3
  have dr := F.minus_ne x1 y1 _ _ h1 o23
  have ax := F.sx_eq x1 y1 x2 y2 h1 h2
  have ay := F.sy_eq x1 y1 x2 y2 h1 h2
  have bx := F.sx_eq x2 y2 x3 y3 h2 h3
  have by' := F.sy_eq x2 y2 x3 y3 h2 h3
  have p12 := F.plus_ne x1 y1 x2 y2 h1 h2
  have m12 := F.minus_ne x1 y1 x2 y2 h1 h2
  have p23 := F.plus_ne x2 y2 x3 y3 h2 h3
  have m23 := F.minus_ne x2 y2 x3 y3 h2 h3
  have hq := y_poly x1 y1 x2 y2 x3 y3 h1 h2 h3
  refine F.cross _ _ _ _ _ _ (frac_yl _ _ x3 y3 _ _ _ _ _ ax ay el) (frac_yr _ _ x1 y1 _ _ _ _ _ bx by' er) hq ?_ ?_
  · rw [den_ml _ _ x3 y3 _ _ _ _ ax ay]; exact F.mul_ne (F.mul_ne p12 m12) dl
  · rw [den_mr _ _ x1 y1 _ _ _ _ bx by']; exact F.mul_ne (F.mul_ne p23 m23) dr

/-- points as pairs -/
def padA (inv : Fin n → Fin n) (d : Fin n) (p q : Fin n × Fin n) : Fin n × Fin n := (sx inv d p.1 p.2 q.1 q.2, sy inv d p.1 p.2 q.1 q.2)
def OnP (d : Fin n) (p : Fin n × Fin n) : Prop := On d p.1 p.2
theorem on_zero : OnP d ((0, 1) : Fin n × Fin n) := by unfold OnP On; grind
theorem Fld.on_add (F : Fld n d i inv) (p q : Fin n × Fin n) (hp : OnP d p) (hq : OnP d q) : OnP d (padA inv d p q) := F.on_sum _ _ _ _ hp hq
theorem Fld.add_assoc (F : Fld n d i inv) (p q r : Fin n × Fin n) (hp : OnP d p) (hq : OnP d q) (hr : OnP d r) : padA inv d (padA inv d p q) r = padA inv d p (padA inv d q r) := by
  unfold padA
  exact Prod.ext (F.assoc_x _ _ _ _ _ _ hp hq hr) (F.assoc_y _ _ _ _ _ _ hp hq hr)
theorem add_comm' (p q : Fin n × Fin n) : padA inv d p q = padA inv d q p := by
  unfold padA sx sy
  have e1 : d * p.1 * q.1 * p.2 * q.2 = d * q.1 * p.1 * q.2 * p.2 := by grind
  have e2 : p.1 * q.2 + q.1 * p.2 = q.1 * p.2 + p.1 * q.2 := by grind
  have e3 : p.2 * q.2 + p.1 * q.1 = q.2 * p.2 + q.1 * p.1 := by grind
  rw [e1, e2, e3]
theorem Fld.add_zero (F : Fld n d i inv) (p : Fin n × Fin n) (hp : OnP d p) : padA inv d p (0, 1) = p := by
  have hx := F.sx_eq p.1 p.2 0 1 hp on_zero
  have hy := F.sy_eq p.1 p.2 0 1 hp on_zero
  unfold padA
  refine Prod.ext ?_ ?_
  · show sx inv d p.1 p.2 0 1 = p.1; grind
  · show sy inv d p.1 p.2 0 1 = p.2; grind
theorem on_neg (p : Fin n × Fin n) (hp : OnP d p) : OnP d (-p.1, p.2) := by
  unfold OnP On at *
  show p.2 * p.2 - -p.1 * -p.1 = 1 + d * -p.1 * -p.1 * p.2 * p.2
  grind
theorem Fld.add_neg (F : Fld n d i inv) (p : Fin n × Fin n) (hp : OnP d p) : padA inv d p (-p.1, p.2) = (0, 1) := by
  have hn := on_neg p hp
  have hx := F.sx_eq p.1 p.2 (-p.1) p.2 hp hn
  have hy := F.sy_eq p.1 p.2 (-p.1) p.2 hp hn
  have h1 := F.plus_ne p.1 p.2 (-p.1) p.2 hp hn
  have h2 := F.minus_ne p.1 p.2 (-p.1) p.2 hp hn
  have ho : p.2 * p.2 - p.1 * p.1 = 1 + d * p.1 * p.1 * p.2 * p.2 := hp
  unfold padA
  refine Prod.ext ?_ ?_
  · show sx inv d p.1 p.2 (-p.1) p.2 = 0
    exact F.cancel _ _ _ h1 (by grind)
  · show sy inv d p.1 p.2 (-p.1) p.2 = 1
    exact F.cancel _ _ _ h2 (by grind)
/-- so many times a point -/
def mulA (inv : Fin n → Fin n) (d : Fin n) (p : Fin n × Fin n) : Nat → Fin n × Fin n
  | 0 => (0, 1)
  | k + 1 => padA inv d (mulA inv d p k) p
theorem Fld.on_mul (F : Fld n d i inv) (p : Fin n × Fin n) (hp : OnP d p) (k : Nat) : OnP d (mulA inv d p k) := by
  induction k with
  | zero => exact on_zero
  | succ k ih => exact F.on_add _ _ ih hp
theorem Fld.zero_add (F : Fld n d i inv) (p : Fin n × Fin n) (hp : OnP d p) : padA inv d (0, 1) p = p := by rw [add_comm', F.add_zero p hp]
theorem Fld.mul_add (F : Fld n d i inv) (p : Fin n × Fin n) (hp : OnP d p) (a b : Nat) : mulA inv d p (a + b) = padA inv d (mulA inv d p a) (mulA inv d p b) := by
  induction b with
  | zero => rw [Nat.add_zero]; exact (F.add_zero _ (F.on_mul p hp a)).symm
  | succ b ih =>
    show padA inv d (mulA inv d p (a + b)) p = padA inv d (mulA inv d p a) (padA inv d (mulA inv d p b) p)
    rw [ih, F.add_assoc _ _ _ (F.on_mul p hp a) (F.on_mul p hp b) hp]
theorem Fld.mul_one (F : Fld n d i inv) (p : Fin n × Fin n) (hp : OnP d p) : mulA inv d p 1 = p := F.zero_add p hp
theorem Fld.mul_mul (F : Fld n d i inv) (p : Fin n × Fin n) (hp : OnP d p) (a b : Nat) : mulA inv d (mulA inv d p a) b = mulA inv d p (a * b) := by
  induction b with
  | zero => rfl
  | succ b ih =>
    show padA inv d (mulA inv d (mulA inv d p a) b) (mulA inv d p a) = mulA inv d p (a * (b + 1))
    rw [ih, ← F.mul_add p hp, Nat.mul_succ]
end Go.Proofs.Ytjiagjonlcadiaa
end
section
namespace Go.Proofs.Ytjiagjonlcadiaa
open Go.RowKit Go.Lib

theorem add64 (x y c : Int) (hx : 0 ≤ x) (hy : 0 ≤ y) (hc0 : 0 ≤ c) (hc : c ≤ 1) (w : World) : (callFunc 76 #[.int .u64 x, .int .u64 y, .int .u64 c]).run Try.prog w =
    .ok (.value (.tuple #[.int .u64 ((x + y + c) % 18446744073709551616), .int .u64 ((x + y + c) / 18446744073709551616)])) w := by
  rw [run_callFunc_extern Try.func76 (by kernel_rfl) (by kernel_rfl) (by kernel_rfl) (e := add64Entry) (by kernel_rfl), run_add64 x y c hx hy hc0 hc]
  rfl

def sub64Ent : Array Value → Sem Value := fun args => do
  let (x, y, b) ← Extern.MathBitsCarry.three "Sub64" args
  pure (Extern.MathBitsCarry.pair ((x + Extern.MathBitsCarry.m64 - y - b) % Extern.MathBitsCarry.m64) (if x < y + b then 1 else 0))

/-- the borrow -/
def bor (x y : Int) : Int := if x < y then 1 else 0
theorem bor_01 (x y : Int) : 0 ≤ bor x y ∧ bor x y ≤ 1 := by unfold bor; split <;> omega

theorem run_sub64n (x y b : Nat) (hb : b ≤ 1) (w : World) :
    (sub64Ent #[.int .u64 x, .int .u64 y, .int .u64 b]).run Try.prog w =
      .ok (.tuple #[.int .u64 (((x + 18446744073709551616 - y - b) % 18446744073709551616 : Nat) : Int), .int .u64 ((if x < y + b then 1 else 0 : Nat) : Int)]) w := by
  have : b = 0 ∨ b = 1 := by omega
  rcases this with rfl | rfl <;> rfl

theorem sub64 (x y b : Int) (hx : 0 ≤ x) (hy : 0 ≤ y) (hy' : y < 18446744073709551616) (hb0 : 0 ≤ b) (hb : b ≤ 1) (w : World) : (callFunc 80 #[.int .u64 x, .int .u64 y, .int .u64 b]).run Try.prog w =
    .ok (.value (.tuple #[.int .u64 ((x - y - b) % 18446744073709551616), .int .u64 (bor x (y + b))])) w := by
  obtain ⟨x, rfl⟩ := Int.eq_ofNat_of_zero_le hx
  obtain ⟨y, rfl⟩ := Int.eq_ofNat_of_zero_le hy
  obtain ⟨b, rfl⟩ := Int.eq_ofNat_of_zero_le hb0
  have e1 : (((x + 18446744073709551616 - y - b) % 18446744073709551616 : Nat) : Int) = ((x : Int) - y - b) % 18446744073709551616 := by omega
  have e2 : ((if x < y + b then 1 else 0 : Nat) : Int) = bor x (y + b) := by unfold bor; split <;> split <;> omega
  rw [← e1, ← e2, run_callFunc_extern Try.func80 (by kernel_rfl) (by kernel_rfl) (by kernel_rfl) (e := sub64Ent) (by kernel_rfl), run_sub64n x y b (by omega)]
  rfl

theorem add64_0 (x y : Int) (hx : 0 ≤ x) (hy : 0 ≤ y) (w : World) : (callFunc 76 #[.int .u64 x, .int .u64 y, .int .u64 0]).run Try.prog w =
    .ok (.value (.tuple #[.int .u64 ((x + y) % 18446744073709551616), .int .u64 ((x + y) / 18446744073709551616)])) w := by
  simpa using add64 x y 0 hx hy (Int.le_refl 0) (by decide) w
theorem sub64_0 (x y : Int) (hx : 0 ≤ x) (hy : 0 ≤ y) (hy' : y < 18446744073709551616) (w : World) : (callFunc 80 #[.int .u64 x, .int .u64 y, .int .u64 0]).run Try.prog w =
    .ok (.value (.tuple #[.int .u64 ((x - y) % 18446744073709551616), .int .u64 (bor x y)])) w := by
  simpa using sub64 x y 0 hx hy hy' (Int.le_refl 0) (by decide) w

namespace M64
theorem maskN (a : Nat) (ha : a < 18446744073709551616) : bits .and .u64 (a : Int) 4294967295 = ((a % 4294967296 : Nat) : Int) := by
  have h := bits_and_u64_nat a 4294967295 ha (by omega)
  have e : a &&& 4294967295 = a % 4294967296 := Nat.and_two_pow_sub_one_eq_mod a 32
  rw [e] at h
  exact h
theorem divN (a : Nat) : (a : Int) / 4294967296 = ((a / 4294967296 : Nat) : Int) := by omega
theorem mulN (a b : Nat) : (a : Int) * (b : Int) = ((a * b : Nat) : Int) := (Int.natCast_mul a b).symm
theorem addN (a b : Nat) : (a : Int) + (b : Int) = ((a + b : Nat) : Int) := (Int.natCast_add a b).symm
theorem wrapN (a : Nat) (ha : a < 18446744073709551616) : IntKind.u64.wrap (a : Int) = (a : Int) := by rw [IntKind.wrap_u64]; omega
theorem wrapM (a : Nat) : IntKind.u64.wrap (a : Int) = ((a % 18446744073709551616 : Nat) : Int) := by rw [IntKind.wrap_u64]; omega
end M64

set_option maxHeartbeats 1000000 in
theorem mul64N (x y : Nat) (hx : x < 18446744073709551616) (hy : y < 18446744073709551616) (w : World) :
    Calls Try.prog 75 #[.int .u64 x, .int .u64 y] w fun e w' => e = .returned (.tuple #[.int .u64 ((x * y / 18446744073709551616 : Nat) : Int), .int .u64 ((x * y % 18446744073709551616 : Nat) : Int)]) ∧ w = w' := by
  obtain ⟨bd, bt, bw, hhi⟩ := Lib.mul64_hi x y hx hy
  have ba := Lib.half_mul_le (a := x / 4294967296) (b := y / 4294967296) (by omega) (by omega)
  have bb := Lib.half_mul_le (a := x / 4294967296) (b := y % 4294967296) (by omega) (by omega)
  have bc := Lib.half_mul_le (a := x % 4294967296) (b := y / 4294967296) (by omega) (by omega)
  have ba' : x / 4294967296 * (y / 4294967296) < 18446744073709551616 := by omega
  have bb' : x / 4294967296 * (y % 4294967296) < 18446744073709551616 := by omega
  have bc' : x % 4294967296 * (y / 4294967296) < 18446744073709551616 := by omega
  have bh1 : x / 4294967296 * (y / 4294967296) + (x / 4294967296 * (y % 4294967296) + x % 4294967296 * (y % 4294967296) / 4294967296) / 4294967296 < 18446744073709551616 := by omega
  have bh : x / 4294967296 * (y / 4294967296) + (x / 4294967296 * (y % 4294967296) + x % 4294967296 * (y % 4294967296) / 4294967296) / 4294967296 + ((x / 4294967296 * (y % 4294967296) + x % 4294967296 * (y % 4294967296) / 4294967296) % 4294967296 + x % 4294967296 * (y / 4294967296)) / 4294967296 < 18446744073709551616 := by omega
  go_enter Try.func75, Try.ntmps75
  go_wp2
  simp only [M64.maskN x hx, M64.maskN y hy, M64.divN, M64.mulN, M64.addN, M64.wrapN _ bd, M64.wrapN _ bb', M64.wrapN _ bt, M64.maskN _ bt, M64.wrapN _ bc', M64.wrapN _ bw, M64.wrapN _ ba', M64.wrapN _ bh1, M64.wrapN _ bh, M64.wrapM (x * y)]
  rw [hhi]
  go_ret2
  exact ⟨rfl, rfl⟩

theorem mul64 (x y : Int) (hx0 : 0 ≤ x) (hx : x < 18446744073709551616) (hy0 : 0 ≤ y) (hy : y < 18446744073709551616) (w : World) :
    Calls Try.prog 75 #[.int .u64 x, .int .u64 y] w fun e w' => e = .returned (.tuple #[.int .u64 (x * y / 18446744073709551616), .int .u64 (x * y % 18446744073709551616)]) ∧ w = w' := by
  obtain ⟨x, rfl⟩ := Int.eq_ofNat_of_zero_le hx0
  obtain ⟨y, rfl⟩ := Int.eq_ofNat_of_zero_le hy0
  exact mul64N x y (by omega) (by omega) w

end Go.Proofs.Ytjiagjonlcadiaa
end
section
namespace Go.Proofs.Ytjiagjonlcadiaa
open Go.RowKit Go.Lib

/-- k cells of one integer kind -/
def rowl (kd : IntKind) (k : Nat) (f : Nat → Int) : List Value := (List.range k).map (fun i => Value.int kd (f i))
/-- the same, as an array -/
def row (kd : IntKind) (k : Nat) (f : Nat → Int) : Array Value := (rowl kd k f).toArray
/-- f, but x at i -/
def upd (f : Nat → Int) (i : Nat) (x : Int) : Nat → Int := fun j => if j = i then x else f j
theorem upd_same (f : Nat → Int) (i : Nat) (x : Int) : upd f i x i = x := by simp [upd]
theorem upd_ne (f : Nat → Int) (i j : Nat) (x : Int) (h : j ≠ i) : upd f i x j = f j := by simp [upd, h]

theorem rowl_len (kd : IntKind) (k : Nat) (f : Nat → Int) : (rowl kd k f).length = k := by simp [rowl]
theorem row_get (kd : IntKind) (k : Nat) (f : Nat → Int) (i : Nat) (h : i < k) : (row kd k f)[i]? = some (.int kd (f i)) := by
  simp [row, rowl, h]
theorem row_size (kd : IntKind) (k : Nat) (f : Nat → Int) : (row kd k f).size = k := by simp [row, rowl]
theorem row_none (kd : IntKind) (k : Nat) (f : Nat → Int) (i : Nat) (h : ¬ i < k) : (row kd k f)[i]? = none := by
  simp [row_size]; omega
theorem row_ext (kd : IntKind) (k : Nat) (f g : Nat → Int) (h : ∀ i, i < k → f i = g i) : row kd k f = row kd k g := by
  apply Array.ext_getElem?
  intro j
  by_cases hj : j < k
  · rw [row_get kd k _ j hj, row_get kd k _ j hj, h j hj]
  · rw [row_none kd k _ j hj, row_none kd k _ j hj]
theorem row_set (kd : IntKind) (k : Nat) (f : Nat → Int) (i : Nat) (x : Int) : (row kd k f).setIfInBounds i (.int kd x) = row kd k (upd f i x) := by
  apply Array.ext_getElem?
  intro j
  rw [Array.getElem?_setIfInBounds]
  simp only [row_size]
  by_cases hj : j < k
  · rw [row_get kd k _ j hj, row_get kd k _ j hj]
    unfold upd
    by_cases h : i = j
    · subst h; simp [hj]
    · have : ¬ j = i := fun e => h e.symm
      simp [h, this]
  · rw [row_none _ _ _ _ hj, row_none _ _ _ _ hj]; simp; omega
theorem row_one (kd : IntKind) (k : Nat) (f : Nat → Int) : (row kd k f).all (·.oneCell') = true := by
  simp [row, rowl, List.all_eq_true, Value.oneCell']

/-- block b holds just these cells, and may be written -/
def Has (w : World) (b : Nat) (c : Array Value) (t : TypeId) : Prop := w.heap[b]? = some (.cells c t (0, 0))
section has
variable {w w' : World} {b : Nat} {c : Array Value} {t : TypeId}
theorem Has.lt (h : Has w b c t) : b < w.heap.size := (Array.getElem?_eq_some_iff.1 h).1
theorem Has.cellAt (h : Has w b c t) (i : Nat) : w.cell? ⟨b, i, none⟩ = c[i]? := cell_of_row w b i c t _ h
theorem Has.cell {kd : IntKind} {k : Nat} {f : Nat → Int} (h : Has w b (row kd k f) t) (i : Nat) (hi : i < k) : w.cell? ⟨b, i, none⟩ = some (.int kd (f i)) := by
  rw [h.cellAt, row_get kd k f i hi]
theorem Has.range {l : List Value} (h : Has w b l.toArray t) : w.rangeAt b 0 l := fun j v hv => by
  rw [Nat.zero_add, h.cellAt]; simpa using hv
theorem Has.frozen (h : Has w b c t) (i : Nat) : w.frozen? ⟨b, i, none⟩ = false := frozen_of_row w b i c t h
theorem Has.setAt (h : Has w b c t) (i : Nat) (v : Value) : Has (w.setCell ⟨b, i, none⟩ v) b (c.setIfInBounds i v) t := heap_setCell_same w b i c t v h
theorem Has.set {kd : IntKind} {k : Nat} {f : Nat → Int} (h : Has w b (row kd k f) t) (i : Nat) (x : Int) : Has (w.setCell ⟨b, i, none⟩ (.int kd x)) b (row kd k (upd f i x)) t := by
  have := h.setAt i (.int kd x)
  rwa [row_set] at this
theorem Has.other (h : Has w b c t) (a : Addr) (v : Value) (hb : b ≠ a.block) : Has (w.setCell a v) b c t := (heap_setCell_other w a b v hb).trans h
theorem Has.drewN (h : Has w b c t) (n : Nat) : Has (w.drewN n) b c t := h
theorem Has.drew (h : Has w b c t) : Has w.drew b c t := h
theorem Has.alloc (h : Has w b c t) (o : Obj) : Has (w.alloc o) b c t := (Below.heap_alloc w o b h.lt).trans h
theorem Has.new (w : World) (c : Array Value) (t : TypeId) : Has (w.alloc (.cells c t)) w.heap.size c t := heap_alloc_new w _
theorem Has.new1 (w : World) (A : Obj) (c : Array Value) (t : TypeId) : Has ((w.alloc A).alloc (.cells c t)) (w.heap.size + 1) c t := by
  have := Has.new (w.alloc A) c t
  simpa using this
theorem Has.new2 (w : World) (A B : Obj) (c : Array Value) (t : TypeId) : Has (((w.alloc A).alloc B).alloc (.cells c t)) (w.heap.size + 1 + 1) c t := by
  have := Has.new ((w.alloc A).alloc B) c t
  simpa using this
theorem Has.new3 (w : World) (A B C : Obj) (c : Array Value) (t : TypeId) : Has ((((w.alloc A).alloc B).alloc C).alloc (.cells c t)) (w.heap.size + 1 + 1 + 1) c t := by
  have := Has.new (((w.alloc A).alloc B).alloc C) c t
  simpa using this
theorem Has.below {B : Nat} (h : Has w b c t) (hb : Below B w w') (hB : b < B) : Has w' b c t := (hb.block b hB).trans h
theorem Has.setRow (h : Has w b c t) (c' : Array Value) : Has (w.setRow b c') b c' t := setRow_heap w b c c' t _ h
theorem Has.setRow_other (h : Has w b c t) (g : Nat) (c' : Array Value) (hg : b ≠ g) : Has (w.setRow g c') b c t := (Go.setRow_other w g b c' hg).trans h
end has
/-- block b holds n cells, whichever, and may be written -/
def HasN (w : World) (b n : Nat) (t : TypeId) : Prop := ∃ c : Array Value, c.size = n ∧ Has w b c t
section hasn
variable {w w' : World} {b n : Nat} {t : TypeId}
theorem Has.toN {c : Array Value} (h : Has w b c t) (hn : c.size = n) : HasN w b n t := ⟨c, hn, h⟩
theorem HasN.new (w : World) (c : Array Value) (t : TypeId) (n : Nat) (hn : c.size = n) : HasN (w.alloc (.cells c t)) w.heap.size n t := ⟨c, hn, Has.new w c t⟩
theorem HasN.new1 (w : World) (A : Obj) (c : Array Value) (t : TypeId) (n : Nat) (hn : c.size = n) : HasN ((w.alloc A).alloc (.cells c t)) (w.heap.size + 1) n t := by
  have := HasN.new (w.alloc A) c t n hn
  simpa using this
theorem HasN.new2 (w : World) (A B : Obj) (c : Array Value) (t : TypeId) (n : Nat) (hn : c.size = n) : HasN (((w.alloc A).alloc B).alloc (.cells c t)) (w.heap.size + 1 + 1) n t := by
  have := HasN.new ((w.alloc A).alloc B) c t n hn
  simpa using this
theorem HasN.new3 (w : World) (A B C : Obj) (c : Array Value) (t : TypeId) (n : Nat) (hn : c.size = n) : HasN ((((w.alloc A).alloc B).alloc C).alloc (.cells c t)) (w.heap.size + 1 + 1 + 1) n t := by
  have := HasN.new (((w.alloc A).alloc B).alloc C) c t n hn
  simpa using this
theorem HasN.lt (h : HasN w b n t) : b < w.heap.size := let ⟨_, _, h⟩ := h; h.lt
theorem HasN.other (h : HasN w b n t) (a : Addr) (v : Value) (hb : b ≠ a.block) : HasN (w.setCell a v) b n t := let ⟨c, hn, h⟩ := h; ⟨c, hn, h.other a v hb⟩
theorem HasN.drewN (h : HasN w b n t) (k : Nat) : HasN (w.drewN k) b n t := h
theorem HasN.drew (h : HasN w b n t) : HasN w.drew b n t := h
theorem HasN.alloc (h : HasN w b n t) (o : Obj) : HasN (w.alloc o) b n t := let ⟨c, hn, h⟩ := h; ⟨c, hn, h.alloc o⟩
theorem HasN.below {B : Nat} (h : HasN w b n t) (hb : Below B w w') (hB : b < B) : HasN w' b n t := let ⟨c, hn, h⟩ := h; ⟨c, hn, h.below hb hB⟩
theorem HasN.setRow_other (h : HasN w b n t) (g : Nat) (c' : Array Value) (hg : b ≠ g) : HasN (w.setRow g c') b n t := let ⟨c, hn, h⟩ := h; ⟨c, hn, h.setRow_other g c' hg⟩
end hasn
theorem below_1 (w : World) (A : Obj) : Below w.heap.size w (w.alloc A) := (Below.refl _ _).alloc (Nat.le_refl _) _
theorem below_2 (w : World) (A B : Obj) : Below w.heap.size w ((w.alloc A).alloc B) := (below_1 w A).alloc (by simp) _
theorem below_3 (w : World) (A B C : Obj) : Below w.heap.size w (((w.alloc A).alloc B).alloc C) := (below_2 w A B).alloc (by simp; omega) _
theorem below_4 (w : World) (A B C D : Obj) : Below w.heap.size w ((((w.alloc A).alloc B).alloc C).alloc D) := (below_3 w A B C).alloc (by simp; omega) _
theorem below_drewN {B : Nat} {a w : World} (h : Below B a w) (n : Nat) : Below B a (w.drewN n) := ⟨h.os, h.tape, h.output, h.size, h.block⟩
theorem below_setRow {B : Nat} {a w : World} (h : Below B a w) (g : Nat) (c : Array Value) (hg : B ≤ g) : Below B a (w.setRow g c) :=
  h.trans ⟨rfl, rfl, rfl, by simp, fun k hk => setRow_other w g k c (by omega)⟩

/-- behind one call more -/
theorem held_next {w4 W w1 : World} (h : Below w4.heap.size w4 W) (hb : Below W.heap.size W w1) : Below w4.heap.size w4 w1 := h.trans (hb.mono h.size)
theorem Has.call {W w1 : World} {b : Nat} {c : Array Value} {t : TypeId} (h : Has W b c t) (hb : Below W.heap.size W w1) : Has w1 b c t := h.below hb h.lt
theorem HasN.call {W w1 : World} {b n : Nat} {t : TypeId} (h : HasN W b n t) (hb : Below W.heap.size W w1) : HasN w1 b n t := h.below hb h.lt
theorem range_below {w4 w1 : World} {b o : Nat} {l : List Value} (hR : w4.rangeAt b o l) (h : Below w4.heap.size w4 w1) (hlt : b < w4.heap.size) : w1.rangeAt b o l := fun j v hv =>
  (h.cell (p := ⟨b, o + j, none⟩) hlt).trans (hR j v hv)
theorem HasN.there {w : World} {b n : Nat} {t : TypeId} (h : HasN w b n t) : w.there b 0 n := fun j hj => by
  obtain ⟨c, hn, h⟩ := h
  rw [h.cellAt, h.frozen]
  simp [hn, hj]
theorem Has.setCells {w : World} {b : Nat} {t : TypeId} (l : List Value) : ∀ (c : Array Value) (o : Nat), Has w b c t → o + l.length ≤ c.size → Has (w.setCells b o l) b (c.toList.take o ++ l ++ c.toList.drop (o + l.length)).toArray t := by
  induction l generalizing w with
  | nil => intro c o h hl; simpa [World.setCells] using h
  | cons v l ih =>
    intro c o h hl
    simp only [World.setCells]
    have h1 := ih (c.setIfInBounds o v) (o + 1) (h.setAt o v) (by simp at hl ⊢; omega)
    have e : (c.setIfInBounds o v).toList.take (o + 1) ++ l ++ (c.setIfInBounds o v).toList.drop (o + 1 + l.length) = c.toList.take o ++ (v :: l) ++ c.toList.drop (o + (v :: l).length) := by
      have hlt : o < c.toList.length := by simp at hl ⊢; omega
      rw [Array.toList_setIfInBounds]
      generalize c.toList = xs at *
      have e1 : (xs.set o v).take (o + 1) = xs.take o ++ [v] := by
        rw [List.take_succ_eq_append_getElem (by simpa using hlt), List.take_set_of_le (Nat.le_refl _)]
        simp
      have e2 : (xs.set o v).drop (o + 1 + l.length) = xs.drop (o + 1 + l.length) := List.drop_set_of_lt (by omega)
      rw [e1, e2]
      simp [Nat.add_comm, Nat.add_left_comm]
    rw [← e]; exact h1
theorem heap_setCells_other (b : Nat) (l : List Value) : ∀ (w : World) (o k : Nat), k ≠ b → (w.setCells b o l).heap[k]? = w.heap[k]? := by
  induction l with
  | nil => intro w o k _; rfl
  | cons v l ih => intro w o k hk; simp only [World.setCells]; rw [ih _ _ _ hk]; exact heap_setCell_other w ⟨b, o, none⟩ k v hk
theorem Has.setCells_other {w : World} {b : Nat} {c : Array Value} {t : TypeId} (h : Has w b c t) (g o : Nat) (l : List Value) (hb : b ≠ g) : Has (w.setCells g o l) b c t := (heap_setCells_other g l w o b hb).trans h
theorem HasN.setCells_other {w : World} {b n : Nat} {t : TypeId} (h : HasN w b n t) (g o : Nat) (l : List Value) (hb : b ≠ g) : HasN (w.setCells g o l) b n t := let ⟨c, hn, h⟩ := h; ⟨c, hn, h.setCells_other g o l hb⟩
theorem below_setCells {B : Nat} {a : World} (g : Nat) (hg : B ≤ g) (l : List Value) : ∀ (w : World) (o : Nat), Below B a w → Below B a (w.setCells g o l) := by
  induction l with
  | nil => intro w o h; exact h
  | cons v l ih => intro w o h; simp only [World.setCells]; exact ih _ _ (h.setCell hg v)

/-- the sum of the figures below n, to the base B -/
def sumf (B : Int) (f : Nat → Int) : Nat → Int
  | 0 => 0
  | n + 1 => sumf B f n + f n * B ^ n
theorem sumf_congr (B : Int) (f g : Nat → Int) (n : Nat) (h : ∀ i, i < n → f i = g i) : sumf B f n = sumf B g n := by
  induction n with
  | zero => rfl
  | succ n ih => simp only [sumf]; rw [ih (fun i hi => h i (by omega)), h n (by omega)]
theorem sumf_upd_above (B : Int) (f : Nat → Int) (n i : Nat) (x : Int) (h : n ≤ i) : sumf B (upd f i x) n = sumf B f n :=
  sumf_congr B _ _ n fun j hj => upd_ne f i j x (by omega)
theorem sumf_upd (B : Int) (f : Nat → Int) (n i : Nat) (x : Int) (h : i < n) : sumf B (upd f i x) n = sumf B f n + (x - f i) * B ^ i := by
  induction n with
  | zero => omega
  | succ n ih =>
    simp only [sumf]
    by_cases hi : i = n
    · subst hi
      rw [sumf_upd_above B f i i x (Nat.le_refl _), upd_same, Int.sub_mul]; omega
    · rw [ih (by omega), upd_ne f i n x (by omega)]; omega
theorem sumf_zero (B : Int) (f : Nat → Int) (n : Nat) (h : ∀ i, i < n → f i = 0) : sumf B f n = 0 := by
  induction n with
  | zero => rfl
  | succ n ih => simp only [sumf]; rw [ih (fun i hi => h i (by omega)), h n (by omega)]; simp
theorem sumf_nonneg (B : Int) (hB : 0 < B) (f : Nat → Int) (n : Nat) (h : ∀ i, i < n → 0 ≤ f i) : 0 ≤ sumf B f n := by
  induction n with
  | zero => simp [sumf]
  | succ n ih =>
    simp only [sumf]
    have h1 := ih (fun i hi => h i (by omega))
    have h2 : 0 ≤ f n * B ^ n := Int.mul_nonneg (h n (by omega)) (Int.le_of_lt (Int.pow_pos hB))
    omega
theorem sumf_lt (B : Int) (hB : 0 < B) (f : Nat → Int) (n : Nat) (h : ∀ i, i < n → f i < B) : sumf B f n < B ^ n := by
  induction n with
  | zero => simp [sumf]
  | succ n ih =>
    simp only [sumf]
    have h1 := ih (fun i hi => h i (by omega))
    have h2 : f n * B ^ n ≤ (B - 1) * B ^ n := Int.mul_le_mul_of_nonneg_right (by have := h n (by omega); omega) (Int.le_of_lt (Int.pow_pos hB))
    rw [Int.sub_mul] at h2
    rw [Int.pow_succ, Int.mul_comm (B ^ n) B]
    omega
/-- figure i of n to the base B -/
def dg (B n i : Nat) : Int := ((n / B ^ i % B : Nat) : Int)
theorem dg_bd (B n i : Nat) (hB : 0 < B) : 0 ≤ dg B n i ∧ dg B n i < B := by
  unfold dg
  have := Nat.mod_lt (n / B ^ i) hB
  omega
theorem sumf_dg (B n k : Nat) : sumf (B : Int) (dg B n) k = ((n % B ^ k : Nat) : Int) := by
  induction k with
  | zero => simp [sumf, Nat.mod_one]
  | succ k ih =>
    simp only [sumf]
    rw [ih, dg, Nat.pow_succ, Nat.mod_mul, ← Int.natCast_pow, Int.mul_comm, ← Int.natCast_mul, ← Int.natCast_add]
theorem sumf_uniq (B : Nat) (f : Nat → Int) (n k : Nat) (hf : ∀ i, i < k → 0 ≤ f i ∧ f i < B) (h : sumf (B : Int) f k = n) : ∀ i, i < k → f i = dg B n i := by
  induction k generalizing n with
  | zero => intro i hi; omega
  | succ k ih =>
    intro i hi
    have hB : 0 < (B : Int) := by have := hf k (by omega); omega
    have hBk : (0 : Int) < (B : Int) ^ k := Int.pow_pos hB
    simp only [sumf] at h
    have h1 := sumf_nonneg B hB f k (fun i hi => (hf i (by omega)).1)
    have h2 := sumf_lt B hB f k (fun i hi => (hf i (by omega)).2)
    have hk := hf k (by omega)
    obtain ⟨s, hs⟩ := Int.eq_ofNat_of_zero_le h1
    obtain ⟨d, hd⟩ := Int.eq_ofNat_of_zero_le hk.1
    rw [hs, hd] at h
    rw [hs] at h2
    rw [← Int.natCast_pow] at h h2
    have h' : s + d * B ^ k = n := by
      have : ((s + d * B ^ k : Nat) : Int) = (n : Int) := by rw [Int.natCast_add, Int.natCast_mul]; exact h
      omega
    have h2' : s < B ^ k := by omega
    have hpos : 0 < B ^ k := by omega
    by_cases hik : i = k
    · subst hik
      rw [hd, dg, ← h', Nat.add_mul_div_right _ _ hpos, Nat.div_eq_of_lt h2', Nat.zero_add, Nat.mod_eq_of_lt (by omega)]
    · rw [ih s (fun i hi => hf i (by omega)) hs i (by omega), dg, dg, ← h']
      have e : B ^ k = B ^ i * B * B ^ (k - i - 1) := by rw [← Nat.pow_succ, ← Nat.pow_add]; congr 1; omega
      rw [e, show d * (B ^ i * B * B ^ (k - i - 1)) = B ^ i * (B * (d * B ^ (k - i - 1))) by ac_rfl, Nat.add_mul_div_left _ _ (Nat.pow_pos (by omega)), Nat.add_mul_mod_self_left]
end Go.Proofs.Ytjiagjonlcadiaa
end
section
namespace Go.Proofs.Ytjiagjonlcadiaa
open Go.RowKit Go.Lib

/-- an element of the reference: 22 figures of 12 bits -/
def r22 (n : Nat) : Array Value := row .i64 22 (dg 4096 n)
theorem r22_size (n : Nat) : (r22 n).size = 22 := row_size _ _ _

theorem less_step (D F G H x y bw bw' z : Int) (h : H = F - G + bw * D) (hz : z = x - y - bw + 4096 * bw') :
    H + z * D = (F + x * D) - (G + y * D) + bw' * (D * 4096) := by
  subst h hz; grind

theorem less_end (a b : Nat) (hab : b ≤ a) (ha : a < 4096 ^ 22) (h : Nat → Int) (bw : Int) (hb0 : 0 ≤ bw) (hb1 : bw ≤ 1) (hd : ∀ j, j < 22 → 0 ≤ h j ∧ h j < 4096)
    (hs : sumf 4096 h 22 = sumf 4096 (dg 4096 a) 22 - sumf 4096 (dg 4096 b) 22 + bw * 4096 ^ 22) : row .i64 22 h = r22 (a - b) := by
  have e1 := sumf_dg 4096 a 22
  have e2 := sumf_dg 4096 b 22
  rw [Nat.mod_eq_of_lt ha] at e1
  rw [Nat.mod_eq_of_lt (by omega)] at e2
  have e3 : sumf 4096 h 22 < 4096 ^ 22 := sumf_lt 4096 (by decide) h 22 fun i hi => (hd i hi).2
  have e1' : sumf 4096 (dg 4096 a) 22 = a := e1
  have e2' : sumf 4096 (dg 4096 b) 22 = b := e2
  rw [e1', e2'] at hs
  have hbw : bw = 0 := by
    rcases (show bw = 0 ∨ bw = 1 by omega) with h0 | h0
    · exact h0
    · subst h0; omega
  subst hbw
  refine row_ext _ _ _ _ (sumf_uniq 4096 h (a - b) 22 hd ?_)
  show sumf 4096 h 22 = _
  rw [hs]; omega

set_option maxHeartbeats 400000 in
theorem less_any (a b : Nat) (hab : b ≤ a) (ha : a < 4096 ^ 22) (w : World) :
    Calls Try.prog 81 #[.agg (r22 a), .agg (r22 b)] w fun e w' => e = .returned (.agg (r22 (a - b))) ∧ Below w.heap.size w w' := by
  have hf := fun i => dg_bd 4096 a i (by decide)
  have hg := fun i => dg_bd 4096 b i (by decide)
  have hend := less_end a b hab ha
  have HF := Lib.hid hf; clear hf
  have HG := Lib.hid hg; clear hg
  have HE := Lib.hid hend; clear hend
  have H0 := Lib.hid hab; clear hab
  have H1 := Lib.hid ha; clear ha
  go_enter Try.func81, Try.ntmps81
  go_wp2_with fail
  go_loopw [5, 6] (fun u i wr => ∃ (k : Nat) (h : Nat → Int) (bw : Int), k ≤ 22 ∧ i = .int .i64 k ∧ u = .int .i64 bw ∧ 0 ≤ bw ∧ bw ≤ 1 ∧ (∀ j, k ≤ j → h j = dg 4096 a j) ∧ (∀ j, j < k → 0 ≤ h j ∧ h j < 4096) ∧ sumf 4096 h k = sumf 4096 (dg 4096 a) k - sumf 4096 (dg 4096 b) k + bw * 4096 ^ k ∧ Has wr w.heap.size (row .i64 22 h) 40 ∧ Has wr (w.heap.size + 1) (r22 b) 40 ∧ HasN wr (w.heap.size + 1 + 1) 22 40 ∧ Below w.heap.size w wr) (fun _ i _ => 22 - (intOf i).toNat)
  case atStart =>
    exact ⟨0, dg 4096 a, 0, by omega, rfl, rfl, by omega, by omega, fun _ _ => rfl, fun j hj => by omega, by simp [sumf], ((Has.new _ _ _).alloc _).alloc _, (Has.new1 _ _ _ _).alloc _, HasN.new2 _ _ _ _ _ _ rfl, below_3 _ _ _ _⟩
  case round =>
    obtain ⟨k, h, bw, hk, rfl, rfl, hb0, hb1, hh, hd, hs, m0, m1, m2, hB⟩ := hrel
    have HH := Lib.hid hh; clear hh
    have HD := Lib.hid hd; clear hd
    have HS := Lib.hid hs; clear hs
    have M0 := Lib.hid m0; clear m0
    have M1 := Lib.hid m1; clear m1
    have M2 := Lib.hid m2; clear m2
    by_cases hlt : k < 22
    · have h1 := M0.out.cell k hlt
      have h2 := M1.out.cell k hlt
      have hfz := M0.out.frozen k
      have h3 := HF.out k
      have h4 := HG.out k
      rw [← HH.out k (Nat.le_refl _)] at h3
      obtain ⟨x, hx⟩ : ∃ x, x = h k := ⟨_, rfl⟩
      obtain ⟨y, hy⟩ : ∃ y, y = dg 4096 b k := ⟨_, rfl⟩
      rw [← hx] at h1 h3
      rw [← hy] at h2 h4
      have Hx := Lib.hid hx; clear hx
      have Hy := Lib.hid hy; clear hy
      obtain ⟨h30, h31⟩ := h3
      obtain ⟨h40, h41⟩ := h4
      go_wp2_with fail
      go_quiet (fail)
      go_wp2_with fail
      all_goals
        go_roundw
        case measure => simp [intOf]; omega
        case rel =>
          first
          | (refine ⟨k + 1, upd h k (x - y - bw + 4096), 1, by omega, by go_num, rfl, by omega, by omega, ?_, ?_, ?_, (M0.out.drewN _).set _ _, M1.out.other _ _ (by simp), M2.out.other _ _ (by simp; omega), (below_drewN hB _).setCell (by simp) _⟩
             · intro j hj; rw [upd_ne _ _ _ _ (by omega)]; exact HH.out j (by omega)
             · intro j hj
               by_cases e : j = k
               · subst e; rw [upd_same]; omega
               · rw [upd_ne _ _ _ _ e]; exact HD.out j (by omega)
             · simp only [sumf]
               rw [sumf_upd_above _ _ _ _ _ (Nat.le_refl _), upd_same, ← HH.out k (Nat.le_refl _), ← Hx.out, ← Hy.out, Int.pow_succ]
               exact less_step _ _ _ _ _ _ _ _ _ HS.out (by omega))
          | (refine ⟨k + 1, upd h k (x - y - bw), 0, by omega, by go_num, rfl, by omega, by omega, ?_, ?_, ?_, (M0.out.drewN _).set _ _, M1.out.other _ _ (by simp), M2.out.other _ _ (by simp; omega), (below_drewN hB _).setCell (by simp) _⟩
             · intro j hj; rw [upd_ne _ _ _ _ (by omega)]; exact HH.out j (by omega)
             · intro j hj
               by_cases e : j = k
               · subst e; rw [upd_same]; omega
               · rw [upd_ne _ _ _ _ e]; exact HD.out j (by omega)
             · simp only [sumf]
               rw [sumf_upd_above _ _ _ _ _ (Nat.le_refl _), upd_same, ← HH.out k (Nat.le_refl _), ← Hx.out, ← Hy.out, Int.pow_succ]
               exact less_step _ _ _ _ _ _ _ _ _ HS.out (by omega))
    · obtain rfl : k = 22 := by omega
      obtain ⟨Z, hZ, m2⟩ := M2.out
      have HZ := Lib.hid hZ; clear hZ
      have M3 := Lib.hid m2; clear m2
      go_wp2_with (first | (refine wpList_load_row rfl 40 _ rfl w.heap.size rfl 40 (row .i64 22 h) (0, 0) _ M0.out Try.underlying40 rfl (by kernel_rfl) ?_) | (refine wpList_store_row rfl 40 _ _ rfl (w.heap.size + 1 + 1) _ rfl rfl 40 Z M3.out (by kernel_rfl) (HZ.out.trans (row_size _ _ _).symm) (row_one _ _ _) ?_))
      refine bodyPost_ret (v := .agg (r22 (a - b))) (results_cell_row (t := 40) (by rfl) _ _ (w.heap.size + 1 + 1) _ _ _ rfl ((M3.out.setRow _).trans (by rw [HE.out h bw hb0 hb1 HD.out HS.out])) Try.underlying40 rfl (by rw [r22_size]; kernel_rfl)) rfl ⟨rfl, below_setRow hB _ _ (by omega)⟩

/-- the prime -/
def PP : Nat := 57896044618658097711785492504343953926634992332820282019728792003956564819949
theorem PP_lt : PP < 4096 ^ 22 := by decide +kernel
theorem prime_row : row .i64 22 (upd (upd (fun j => if j < 21 then 4095 else 0) 0 4077) 21 7) = r22 PP := by
  refine row_ext _ _ _ _ ?_
  have : (List.range 22).all (fun i => upd (upd (fun j => if j < 21 then 4095 else 0) 0 4077) 21 7 i == dg 4096 PP i) = true := by decide +kernel
  intro i hi
  simpa using List.all_eq_true.1 this i (by simpa using hi)

set_option maxHeartbeats 400000 in
theorem prime_any (w : World) : Calls Try.prog 82 #[] w fun e w' => e = .returned (.agg (r22 PP)) ∧ Below w.heap.size w w' := by
  go_enter Try.func82, Try.ntmps82
  go_wp2_with fail
  go_loopw [2] (fun i wr => ∃ (k : Nat), k ≤ 21 ∧ i = .int .i64 k ∧ Has wr (w.heap.size + 1) (row .i64 22 (fun j => if j < k then 4095 else 0)) 40 ∧ HasN wr w.heap.size 22 40 ∧ Below w.heap.size w wr) (fun i _ => 21 - (intOf i).toNat)
  case atStart =>
    exact ⟨0, by omega, rfl, Has.new1 _ _ _ _, (HasN.new _ _ _ 22 rfl).alloc _, below_2 _ _ _⟩
  case round =>
    obtain ⟨k, hk, rfl, m0, m1, hB⟩ := hrel
    have M0 := Lib.hid m0; clear m0
    have M1 := Lib.hid m1; clear m1
    by_cases hlt : k < 21
    · have h1 := M0.out.cell k (by omega)
      have hfz := M0.out.frozen k
      go_wp2_with fail
      go_roundw
      case measure => simp [intOf]; omega
      case rel =>
        refine ⟨k + 1, by omega, by go_num, ?_, M1.out.other _ _ (by simp), hB.setCell (by simp) _⟩
        have := M0.out.set k 4095
        rw [row_ext _ _ _ (fun j => if j < k + 1 then 4095 else 0)] at this
        · exact this
        · intro i _
          by_cases e : i = k
          · subst e; rw [upd_same]; simp
          · rw [upd_ne _ _ _ _ e]
            show (if i < k then (4095 : Int) else 0) = if i < k + 1 then 4095 else 0
            split <;> split <;> first | rfl | omega
    · obtain rfl : k = 21 := by omega
      have h1 := M0.out.cell 0 (by omega)
      have h2 := M0.out.cell 21 (by omega)
      have f1 := M0.out.frozen 0
      have f2 := M0.out.frozen 21
      have m2 := ((M0.out.set 0 4077).set 21 7)
      rw [prime_row] at m2
      have M2 := Lib.hid m2; clear m2
      obtain ⟨Z, hZ, m3⟩ := M1.out
      have M3 := Lib.hid ((m3.other ⟨w.heap.size + 1, 0, none⟩ (.int .i64 4077) (by simp)).other ⟨w.heap.size + 1, 21, none⟩ (.int .i64 7) (by simp)); clear m3
      have HZ := Lib.hid hZ; clear hZ
      go_wp2_with (first | (refine wpList_load_row rfl 40 _ rfl (w.heap.size + 1) rfl 40 (r22 PP) (0, 0) _ M2.out Try.underlying40 rfl (by kernel_rfl) ?_) | (refine wpList_store_row rfl 40 _ _ rfl w.heap.size _ rfl rfl 40 Z M3.out (by kernel_rfl) (HZ.out.trans (r22_size _).symm) (row_one _ _ _) ?_))
      exact bodyPost_ret (v := .agg (r22 PP)) (results_cell_row (t := 40) (by rfl) _ _ w.heap.size _ _ _ rfl (M3.out.setRow _) Try.underlying40 rfl (by kernel_rfl)) rfl ⟨rfl, below_setRow ((hB.setCell (by simp) _).setCell (by simp) _) _ _ (by omega)⟩

/-- below: from the highest figure on -/
theorem below_end (a b k : Nat) (ha : a < 4096 ^ 22) (hb : b < 4096 ^ 22) (hk : k < 22) (heq : ∀ j, k < j → j < 22 → dg 4096 a j = dg 4096 b j) (hne : dg 4096 a k ≠ dg 4096 b k) : (dg 4096 a k < dg 4096 b k) ↔ a < b := by
  have e1 : sumf 4096 (dg 4096 a) 22 = (a % 4096 ^ 22 : Nat) := sumf_dg 4096 a 22
  have e2 : sumf 4096 (dg 4096 b) 22 = (b % 4096 ^ 22 : Nat) := sumf_dg 4096 b 22
  rw [Nat.mod_eq_of_lt ha] at e1
  rw [Nat.mod_eq_of_lt hb] at e2
  have up : ∀ n, k + 1 ≤ n → n ≤ 22 → sumf 4096 (dg 4096 a) n - sumf 4096 (dg 4096 b) n = sumf 4096 (dg 4096 a) (k + 1) - sumf 4096 (dg 4096 b) (k + 1) := by
    intro n hn
    induction n with
    | zero => omega
    | succ n ih =>
      intro h22
      by_cases hkn : k = n
      · subst hkn; rfl
      · have := ih (by omega) (by omega)
        have h2 := heq n (by omega) (by omega)
        simp only [sumf] at this ⊢
        rw [h2]; omega
  have h3 := up 22 (by omega) (by omega)
  rw [e1, e2] at h3
  simp only [sumf] at h3
  have p1 := sumf_nonneg 4096 (by decide) (dg 4096 a) k (fun i _ => (dg_bd 4096 a i (by decide)).1)
  have p2 := sumf_nonneg 4096 (by decide) (dg 4096 b) k (fun i _ => (dg_bd 4096 b i (by decide)).1)
  have q1 := sumf_lt 4096 (by decide) (dg 4096 a) k (fun i _ => (dg_bd 4096 a i (by decide)).2)
  have q2 := sumf_lt 4096 (by decide) (dg 4096 b) k (fun i _ => (dg_bd 4096 b i (by decide)).2)
  have hD : (0 : Int) < 4096 ^ k := Int.pow_pos (by decide)
  generalize (4096 : Int) ^ k = D at *
  generalize dg 4096 a k = x at *
  generalize dg 4096 b k = y at *
  constructor
  · intro h
    have : (x + 1) * D ≤ y * D := Int.mul_le_mul_of_nonneg_right (by omega) (by omega)
    rw [Int.add_mul] at this
    omega
  · intro h
    by_cases hh : x < y
    · exact hh
    · have : (y + 1) * D ≤ x * D := Int.mul_le_mul_of_nonneg_right (by omega) (by omega)
      rw [Int.add_mul] at this
      omega
theorem below_eq (a b : Nat) (ha : a < 4096 ^ 22) (hb : b < 4096 ^ 22) (heq : ∀ j, j < 22 → dg 4096 a j = dg 4096 b j) : a = b := by
  have e1 : sumf 4096 (dg 4096 a) 22 = (a % 4096 ^ 22 : Nat) := sumf_dg 4096 a 22
  have e2 : sumf 4096 (dg 4096 b) 22 = (b % 4096 ^ 22 : Nat) := sumf_dg 4096 b 22
  rw [Nat.mod_eq_of_lt ha] at e1
  rw [Nat.mod_eq_of_lt hb] at e2
  rw [sumf_congr 4096 _ _ 22 heq] at e1
  omega

theorem ret_bool {a b : Bool} (h : a = b) : Ending.returned (.bool a) = .returned (.bool b) := by rw [h]

set_option maxHeartbeats 400000 in
theorem below_any (a b : Nat) (ha : a < 4096 ^ 22) (hb : b < 4096 ^ 22) (w : World) :
    Calls Try.prog 109 #[.agg (r22 a), .agg (r22 b)] w fun e w' => e = .returned (.bool (decide (a < b))) ∧ Below w.heap.size w w' := by
  have H0 := Lib.hid ha; clear ha
  have H1 := Lib.hid hb; clear hb
  go_enter Try.func109, Try.ntmps109
  go_wp2_with fail
  go_loopw [5] (fun i wr => ∃ (k : Nat), k ≤ 22 ∧ i = .int .i64 ((k : Int) - 1) ∧ (∀ j, k ≤ j → j < 22 → dg 4096 a j = dg 4096 b j) ∧ Has wr w.heap.size (r22 a) 40 ∧ Has wr (w.heap.size + 1) (r22 b) 40 ∧ Below w.heap.size w wr) (fun i _ => (intOf i + 1).toNat)
  case atStart =>
    exact ⟨22, by omega, rfl, fun j h1 h2 => by omega, (Has.new _ _ _).alloc _, Has.new1 _ _ _ _, below_2 _ _ _⟩
  case round =>
    obtain ⟨k, hk, rfl, hh, m0, m1, hB⟩ := hrel
    have M0 := Lib.hid m0; clear m0
    have M1 := Lib.hid m1; clear m1
    have HH := Lib.hid hh; clear hh
    by_cases hlt : 0 < k
    · obtain ⟨k, rfl⟩ : ∃ j, k = j + 1 := ⟨k - 1, by omega⟩
      rw [show (((k + 1 : Nat) : Int) - 1) = (k : Int) by omega]
      have h1 := M0.out.cell k (by omega)
      have h2 := M1.out.cell k (by omega)
      obtain ⟨x, hx⟩ : ∃ x, x = dg 4096 a k := ⟨_, rfl⟩
      obtain ⟨y, hy⟩ : ∃ y, y = dg 4096 b k := ⟨_, rfl⟩
      rw [← hx] at h1
      rw [← hy] at h2
      have Hx := Lib.hid hx; clear hx
      have Hy := Lib.hid hy; clear hy
      have hk' : k < 22 := by omega
      by_cases hxy : x = y
      · have ht : (x != y) = false := by simp [hxy]
        have Hxy := Lib.hid hxy; clear hxy
        go_wp2_with fail
        go_quiet (fail)
        go_wp2_with fail
        go_roundw
        case measure => simp [intOf]
        case rel =>
          refine ⟨k, by omega, rfl, ?_, M0.out, M1.out, below_drewN hB _⟩
          intro j h1 h2
          by_cases e : j = k
          · subst e; rw [← Hx.out, ← Hy.out]; exact Hxy.out
          · exact HH.out j (by omega) h2
      · have ht : (x != y) = true := by simp [hxy]
        have hxy' : dg 4096 a k ≠ dg 4096 b k := by rw [← Hx.out, ← Hy.out]; exact hxy
        have hres := below_end a b k H0.out H1.out hk' (fun j h1 h2 => HH.out j (by omega) h2) hxy'
        rw [← Hx.out, ← Hy.out] at hres
        have HR := Lib.hid hres; clear hres hxy' hxy
        go_wp2_with fail
        go_quiet (fail)
        go_wp2_with fail
        go_quiet (fail)
        go_wp2_with fail
        go_ret
        exact ⟨ret_bool (by have := HR.out; simp only [this]), below_drewN (below_drewN hB _) _⟩
    · obtain rfl : k = 0 := by omega
      have hab := below_eq a b H0.out H1.out (fun j hj => HH.out j (by omega) hj)
      have HR := Lib.hid hab; clear hab
      go_wp2_with fail
      go_ret
      exact ⟨ret_bool (by have := HR.out; simp [this]), hB⟩
end Go.Proofs.Ytjiagjonlcadiaa
end
section
namespace Go.Proofs.Ytjiagjonlcadiaa
open Go.RowKit Go.Lib

theorem sumf_split (B : Int) (g : Nat → Int) (a b : Nat) : sumf B g (a + b) = sumf B g a + B ^ a * sumf B (fun j => g (j + a)) b := by
  induction b with
  | zero => simp [sumf]
  | succ b ih =>
    rw [← Nat.add_assoc]
    simp only [sumf]
    rw [ih, Int.mul_add, Int.pow_add, Nat.add_comm b a]
    have : g (a + b) * (B ^ a * B ^ b) = B ^ a * (g (a + b) * B ^ b) := by ac_rfl
    omega
theorem sumf_lin (B c : Int) (f g : Nat → Int) (n : Nat) : sumf B (fun j => f j + c * g j) n = sumf B f n + c * sumf B g n := by
  induction n with
  | zero => simp [sumf]
  | succ n ih =>
    simp only [sumf]
    rw [ih, Int.mul_add, Int.add_mul, Int.mul_assoc]
    omega
theorem carry_step (D S F x c r q : Int) (h : S + c * D = F) (hr : x + c = r + 4096 * q) : (S + r * D) + q * (D * 4096) = F + x * D := by
  have : x = r + 4096 * q - c := by omega
  subst this; grind

/-- behind the k-th round the number is below this -/
def bnd (k : Nat) : Nat := if k = 0 then 878694100496718043517683302282418331810487718418343092402491322775749527474899974671687634004666183037093927858109549828751614463963730408009475621262727315456 else if k = 1 then 485667223056432267729865476705879726660601709763034880312953102434726071301302124544 else if k = 2 then 29642774844752946028434172162224104410437116074403984394101141506025761456259072 else 29642774844752946028434172162224104410437116074403984394101141506025761187823616
theorem bnd_le (k : Nat) : bnd k ≤ 878694100496718043517683302282418331810487718418343092402491322775749527474899974671687634004666183037093927858109549828751614463963730408009475621262727315456 := by unfold bnd; split <;> (try split) <;> (try split) <;> omega
theorem bnd_3 (k : Nat) (h : 3 ≤ k) : bnd k = 29642774844752946028434172162224104410437116074403984394101141506025761187823616 := by unfold bnd; rw [if_neg (by omega), if_neg (by omega), if_neg (by omega)]
theorem p22 : (4096 : Int) ^ 22 = 29642774844752946028434172162224104410437116074403984394101141506025761187823616 := by decide +kernel
theorem p44 : (4096 : Int) ^ 44 = 878694100496718043517683302282418331810487718418343092402491322775749527474899974671687634004666183037093927858109549828751614463963730408009475621262727315456 := by decide +kernel

theorem fold_num (k L H m m' : Nat) (hm : m = L + 29642774844752946028434172162224104410437116074403984394101141506025761187823616 * H) (hm' : m' = L + 9728 * H) (hL : L < 29642774844752946028434172162224104410437116074403984394101141506025761187823616) (hb : m < bnd k) (hk : k < 5) : m' % PP = m % PP ∧ m' < bnd (k + 1) := by
  have e : 29642774844752946028434172162224104410437116074403984394101141506025761187823616 = 9728 + 512 * PP := by decide +kernel
  constructor
  · rw [hm, hm', e, Nat.add_mul, ← Nat.add_assoc, show 512 * PP * H = PP * (512 * H) by ac_rfl, Nat.add_mul_mod_self_left]
  · clear e
    unfold bnd at hb ⊢
    split at hb
    · split <;> (try split) <;> (try split) <;> omega
    split at hb
    · split <;> (try split) <;> (try split) <;> omega
    split at hb
    · split <;> (try split) <;> (try split) <;> omega
    · split <;> (try split) <;> (try split) <;> omega

/-- the state of 'least' at the head of its first loop -/
structure Inv1 (n k : Nat) (h : Nat → Int) : Prop where
  bd : ∀ i, i < 44 → 0 ≤ h i ∧ h i ≤ 1099511627776
  num : ∃ m : Nat, sumf 4096 h 44 = m ∧ m % PP = n % PP ∧ m < bnd k
  norm : 4 ≤ k → ∀ i, i < 22 → h i < 4096
  /-- the high figures -/
  high : 1 ≤ k → ∀ i, 22 ≤ i → i < 44 → h i = 0

/-- behind the pass of the carry -/
structure Inv2 (n k : Nat) (g : Nat → Int) : Prop where
  bd : ∀ i, i < 44 → 0 ≤ g i ∧ g i < 4096
  num : ∃ m : Nat, sumf 4096 g 44 = m ∧ m % PP = n % PP ∧ m < bnd k

theorem inv2_of (n k : Nat) (h g : Nat → Int) (c : Int) (h1 : Inv1 n k h) (hc : 0 ≤ c) (hb : ∀ i, i < 44 → 0 ≤ g i ∧ g i < 4096) (hs : sumf 4096 g 44 + c * 4096 ^ 44 = sumf 4096 h 44) : Inv2 n k g := by
  obtain ⟨m, hm, hmod, hlt⟩ := h1.num
  refine ⟨hb, m, ?_, hmod, hlt⟩
  have hlt' := bnd_le k
  have h0 := sumf_nonneg 4096 (by decide) g 44 (fun i hi => (hb i hi).1)
  rw [hm, p44] at hs
  have : c = 0 := by omega
  subst this
  simpa using hs

theorem inv1_of (n k : Nat) (g : Nat → Int) (hk : k < 5) (hg : Inv2 n k g) (h : Nat → Int) (hl : ∀ i, i < 22 → h i = g i + 9728 * g (i + 22)) (hh : ∀ i, 22 ≤ i → i < 44 → h i = 0) : Inv1 n (k + 1) h := by
  obtain ⟨m, hm, hmod, hlt⟩ := hg.num
  have hsp := sumf_split 4096 g 22 22
  have hL0 := sumf_nonneg 4096 (by decide) g 22 (fun i hi => (hg.bd i (by omega)).1)
  have hL1 := sumf_lt 4096 (by decide) g 22 (fun i hi => (hg.bd i (by omega)).2)
  have hH0 := sumf_nonneg 4096 (by decide) (fun j => g (j + 22)) 22 (fun i hi => (hg.bd (i + 22) (by omega)).1)
  have hsum : sumf 4096 h 44 = sumf 4096 g 22 + 9728 * sumf 4096 (fun j => g (j + 22)) 22 := by
    rw [show (44 : Nat) = 22 + 22 from rfl, sumf_split, sumf_zero 4096 (fun j => h (j + 22)) 22 (fun i hi => hh (i + 22) (by omega) (by omega)), sumf_congr 4096 h (fun j => g j + 9728 * g (j + 22)) 22 hl,
      sumf_lin 4096 9728 g (fun j => g (j + 22)) 22]
    omega
  obtain ⟨L, eL⟩ := Int.eq_ofNat_of_zero_le hL0
  obtain ⟨H, eH⟩ := Int.eq_ofNat_of_zero_le hH0
  rw [show (22 + 22 : Nat) = 44 from rfl, hm, eL, eH] at hsp
  rw [eL, eH] at hsum
  rw [eL] at hL1
  rw [p22] at hsp hL1
  have key := fold_num k L H m (L + 9728 * H) (by omega) rfl (by omega) hlt hk
  refine ⟨?_, ⟨L + 9728 * H, by rw [hsum]; omega, key.1.trans hmod, key.2⟩, ?_, fun _ => hh⟩
  · intro i hi
    by_cases h22 : i < 22
    · rw [hl i h22]
      have a1 := hg.bd i (by omega)
      have a2 := hg.bd (i + 22) (by omega)
      omega
    · rw [hh i (by omega) hi]; omega
  · intro hk4 i hi
    -- the number is below 2 ^ 264: nothing is above
    rw [bnd_3 k (by omega)] at hlt
    have hH : H = 0 := by omega
    have hz : g (i + 22) = 0 := by
      have hu := sumf_uniq 4096 (fun j => g (j + 22)) 0 22 (fun i hi => hg.bd (i + 22) (by omega)) (by show sumf 4096 _ 22 = _; rw [eH, hH]) i hi
      rw [hu, dg, Nat.zero_div, Nat.zero_mod]
      rfl
    rw [hl i hi, hz]
    have := (hg.bd i (by omega)).2
    omega
/-- the bounds of the second loop -/
def bnd4 (k : Nat) : Nat := if k = 0 then 29642774844752946028434172162224104410437116074403984394101141506025761187823616 else if k = 1 then 57896044618658097711785492504343953926634992332820282019728792003956564829696 else 57896044618658097711785492504343953926634992332820282019728792003956564819968
theorem p21 : (4096 : Int) ^ 21 = 7237005577332262213973186563042994240829374041602535252466099000494570602496 := by decide +kernel
structure Inv4 (n k : Nat) (h : Nat → Int) : Prop where
  bd : ∀ i, i < 22 → 0 ≤ h i ∧ h i < 4096
  num : ∃ m : Nat, sumf 4096 h 22 = m ∧ m % PP = n % PP ∧ m < bnd4 k

theorem inv4_of (n : Nat) (h : Nat → Int) (h1 : Inv1 n 5 h) : Inv4 n 0 h := by
  obtain ⟨m, hm, hmod, hlt⟩ := h1.num
  refine ⟨fun i hi => ⟨(h1.bd i (by omega)).1, h1.norm (by omega) i hi⟩, m, ?_, hmod, by rw [bnd_3 _ (by omega)] at hlt; exact hlt⟩
  rw [show (44 : Nat) = 22 + 22 from rfl, sumf_split, sumf_zero 4096 (fun j => h (j + 22)) 22 (fun i hi => h1.high (by omega) (i + 22) (by omega) (by omega))] at hm
  simpa using hm

/-- the figures between the two halves of the round -/
def mid (h : Nat → Int) : Nat → Int := upd (upd h 21 (h 21 % 8)) 0 (h 0 + 19 * (h 21 / 8))
theorem mid_sum (h : Nat → Int) : sumf 4096 (mid h) 22 = sumf 4096 h 22 - (h 21 / 8) * (PP : Int) := by
  have e : (PP : Int) = 8 * 7237005577332262213973186563042994240829374041602535252466099000494570602496 - 19 := by decide +kernel
  unfold mid
  rw [sumf_upd _ _ _ _ _ (by omega), upd_ne _ _ _ _ (by omega), sumf_upd _ _ _ _ _ (by omega), p21, e]
  omega
theorem mid_bd (h : Nat → Int) (hb : ∀ i, i < 22 → 0 ≤ h i ∧ h i < 4096) : ∀ i, i < 22 → 0 ≤ mid h i ∧ mid h i ≤ 16384 := by
  intro i hi
  have h21 := hb 21 (by omega)
  have h0 := hb 0 (by omega)
  unfold mid
  by_cases e0 : i = 0
  · subst e0; rw [upd_same]; omega
  · rw [upd_ne _ _ _ _ e0]
    by_cases e1 : i = 21
    · subst e1; rw [upd_same]; omega
    · rw [upd_ne _ _ _ _ e1]; have := hb i hi; omega

theorem pass_sum (h : Nat → Int) (i : Nat) (hi : i < 21) : sumf 4096 (upd (upd h (i + 1) (h (i + 1) + h i / 4096)) i (h i % 4096)) 22 = sumf 4096 h 22 := by
  rw [sumf_upd _ _ _ _ _ (by omega), upd_ne _ _ _ _ (by omega), sumf_upd _ _ _ _ _ (by omega), Int.pow_succ]
  have e : h i % 4096 = h i - 4096 * (h i / 4096) := by omega
  rw [e]
  generalize h i / 4096 = q
  generalize (4096 : Int) ^ i = D
  generalize h i = x
  generalize h (i + 1) = y
  grind

theorem s4a (m q : Nat) (G x : Int) (hG : 0 ≤ G) (h : G + x * 7237005577332262213973186563042994240829374041602535252466099000494570602496 = m - q * 57896044618658097711785492504343953926634992332820282019728792003956564819949) (hm : m < 29642774844752946028434172162224104410437116074403984394101141506025761187823616) : x < 4096 := by omega
theorem s4b (m q : Nat) (A r : Int) (hA : 0 ≤ A) (hr : 0 ≤ r) (h : A + (8 * q + r) * 7237005577332262213973186563042994240829374041602535252466099000494570602496 = m) : q * 57896044618658097711785492504343953926634992332820282019728792003956564819949 ≤ m := by omega
theorem s4c (m q : Nat) (A r : Int) (hA : 0 ≤ A) (hA' : A < 7237005577332262213973186563042994240829374041602535252466099000494570602496) (hr : 0 ≤ r) (hr' : r < 8) (h : A + (8 * q + r) * 7237005577332262213973186563042994240829374041602535252466099000494570602496 = m) (hm : m < 29642774844752946028434172162224104410437116074403984394101141506025761187823616) : m - q * 57896044618658097711785492504343953926634992332820282019728792003956564819949 < 57896044618658097711785492504343953926634992332820282019728792003956564829696 := by omega
theorem s4d (m q : Nat) (A r : Int) (hA : 0 ≤ A) (hA' : A < 7237005577332262213973186563042994240829374041602535252466099000494570602496) (hr : 0 ≤ r) (hr' : r < 8) (h : A + (8 * q + r) * 7237005577332262213973186563042994240829374041602535252466099000494570602496 = m) (hm : m < 57896044618658097711785492504343953926634992332820282019728792003956564829696) : m - q * 57896044618658097711785492504343953926634992332820282019728792003956564819949 < 57896044618658097711785492504343953926634992332820282019728792003956564819968 := by omega
theorem s4e (m q : Nat) (h : q * 57896044618658097711785492504343953926634992332820282019728792003956564819949 ≤ m) : ((m - q * 57896044618658097711785492504343953926634992332820282019728792003956564819949 : Nat) : Int) = m - q * 57896044618658097711785492504343953926634992332820282019728792003956564819949 := by omega
theorem s4f (m q : Nat) (h : q * 57896044618658097711785492504343953926634992332820282019728792003956564819949 ≤ m) : m = (m - q * 57896044618658097711785492504343953926634992332820282019728792003956564819949) + 57896044618658097711785492504343953926634992332820282019728792003956564819949 * q := by omega

theorem inv4_step (n k : Nat) (h g : Nat → Int) (hk : k < 2) (h1 : Inv4 n k h) (hb : ∀ i, i < 21 → 0 ≤ g i ∧ g i < 4096) (h21 : 0 ≤ g 21) (hs : sumf 4096 g 22 = sumf 4096 (mid h) 22) : Inv4 n (k + 1) g := by
  obtain ⟨m, hm, hmod, hlt⟩ := h1.num
  have hb21 := h1.bd 21 (by omega)
  have hlow := sumf_lt 4096 (by decide) h 21 (fun i hi => (h1.bd i (by omega)).2)
  have hlow0 := sumf_nonneg 4096 (by decide) h 21 (fun i hi => (h1.bd i (by omega)).1)
  have hg0 := sumf_nonneg 4096 (by decide) g 21 (fun i hi => (hb i hi).1)
  rw [mid_sum, hm] at hs
  have e : (PP : Int) = 57896044618658097711785492504343953926634992332820282019728792003956564819949 := by decide +kernel
  have e' : PP = 57896044618658097711785492504343953926634992332820282019728792003956564819949 := rfl
  have hm' : sumf 4096 h 21 + h 21 * 4096 ^ 21 = m := hm
  have hs' : sumf 4096 g 21 + g 21 * 4096 ^ 21 = m - h 21 / 8 * (PP : Int) := hs
  obtain ⟨q, hq⟩ := Int.eq_ofNat_of_zero_le (show 0 ≤ h 21 / 8 by omega)
  have hdec : h 21 = 8 * q + h 21 % 8 := by omega
  have hr : 0 ≤ h 21 % 8 := by omega
  have hr' : h 21 % 8 < 8 := by omega
  generalize h 21 % 8 = r at *
  rw [p21] at hm' hs' hlow
  rw [hdec] at hm'
  rw [hq, e] at hs' hs
  have hle := s4b m q _ r hlow0 hr hm'
  refine ⟨?_, m - q * 57896044618658097711785492504343953926634992332820282019728792003956564819949, ?_, ?_, ?_⟩
  · intro i hi
    by_cases e1 : i = 21
    · subst e1
      refine ⟨h21, s4a m q _ _ hg0 hs' ?_⟩
      unfold bnd4 at hlt
      split at hlt
      · exact hlt
      · split at hlt <;> omega
    · exact hb i (by omega)
  · rw [hs, s4e m q hle]
  · have := s4f m q hle
    rw [← hmod]
    conv => rhs; rw [this, ← e']
    rw [Nat.add_mul_mod_self_left, e']
  · unfold bnd4 at hlt ⊢
    rcases (show k = 0 ∨ k = 1 by omega) with rfl | rfl
    · simp only [if_true, Nat.zero_add, Nat.one_ne_zero, if_false] at hlt ⊢
      exact s4c m q _ r hlow0 hlow hr hr' hm' hlt
    · simp only [if_true, Nat.one_ne_zero, if_false] at hlt ⊢
      rw [if_neg (by omega), if_neg (by omega)]
      exact s4d m q _ r hlow0 hlow hr hr' hm' hlt

theorem inv4_end (n : Nat) (h : Nat → Int) (h1 : Inv4 n 2 h) : ∃ m : Nat, row .i64 22 h = r22 m ∧ m % PP = n % PP ∧ m < 57896044618658097711785492504343953926634992332820282019728792003956564819968 := by
  obtain ⟨m, hm, hmod, hlt⟩ := h1.num
  exact ⟨m, row_ext _ _ _ _ (sumf_uniq 4096 h m 22 h1.bd hm), hmod, hlt⟩
end Go.Proofs.Ytjiagjonlcadiaa
end
section
namespace Go
variable {P : Program} {md : Region.Mode} {ops : Array Oper} {Q : Exit → Act → World → Prop} {f : Nat} {S : World → Prop}

/-- whatever order is picked from here on; behind each operation but number f the world meets S -/
def wpBut (P : Program) (md : Region.Mode) (ops : Array Oper) (Q : Exit → Act → World → Prop) (f : Nat) (S : World → Prop) : Nat → Array Bool → Act → World → Prop
  | 0, listed, a, w => Region.ready md ops listed = [] ∧ Q .normal a w
  | n + 1, listed, a, w => (Region.ready md ops listed = [] → Q .normal a w) ∧
      ∀ j ∈ Region.ready md ops listed, wpOp P ops Q j (fun a' w' => (j ≠ f → S w') ∧ wpBut P md ops Q f S n (listed.setIfInBounds j true) a' w') a w

theorem wpAny_of_but (n : Nat) : ∀ (listed : Array Bool) (a : Act) (w : World), wpBut P md ops Q f S n listed a w → wpAny P md ops Q n listed a w := by
  induction n with
  | zero => intro _ _ _ h; exact h
  | succ n ih => intro listed a w h; exact ⟨h.1, fun j hj => wpOp_mono (fun a' w' h' => ih _ a' w' h'.2) (h.2 j hj)⟩

theorem wpBut_gen {i : Nat} {oi : Oper} {v : Value} (hi : ops[i]? = some oi) (hsel : ∀ (j : Nat) (o : Oper) cs b, ops[j]? = some o → o.op ≠ .select cs b)
    (hif : i ≠ f) (hf : ∀ o, ops[f]? = some o → ∃ e ∈ o.after, Region.binds md e = true ∧ e.on = i) (hQ : ∀ c a w, Q (.panic c) (a.put oi.dst v) w → Q (.panic c) a w) (n : Nat) :
    ∀ (listed : Array Bool) (a : Act) (w : World),
      (∀ j oj, ops[j]? = some oj → j ≠ i → listed.getD j true = false → (∀ e ∈ oj.after, Region.binds md e = true → e.on ≠ i) → oi.apart ops oj = true) →
      i ∈ Region.ready md ops listed → YieldsIf P ops S oi v a → S w →
      wpBut P md ops Q f S n (listed.setIfInBounds i true) (a.put oi.dst v) w → wpBut P md ops Q f S (n + 1) listed a w := by
  induction n with
  | zero =>
    intro listed a w _ hr hy hS H
    refine ⟨fun h => (by rw [h] at hr; cases hr), fun j hj => ?_⟩
    by_cases hji : j = i
    · subst hji; exact hy.wpOp hi hS ⟨fun _ => hS, H⟩
    · have h0 := ready_mono hj hji
      rw [H.1] at h0
      cases h0
  | succ n ih =>
    intro listed a w hfree hr hy hS H
    refine ⟨fun h => (by rw [h] at hr; cases hr), fun j hj => ?_⟩
    by_cases hji : j = i
    · subst hji; exact hy.wpOp hi hS ⟨fun _ => hS, H⟩
    have hiun := (mem_ready.1 hr).1
    obtain ⟨hjun, oj, hoj, hall⟩ := mem_ready.1 hj
    -- j does not wait for i, which has not come up: so j is not f
    have hnot : ∀ e ∈ oj.after, Region.binds md e = true → e.on ≠ i := by
      intro e he hb heq
      have h1 := hall e he hb
      rw [heq] at h1
      by_cases hlt : i < listed.size
      · simp [hlt] at hiun h1; rw [hiun] at h1; cases h1
      · simp [Array.getElem?_eq_none (Nat.le_of_not_lt hlt)] at h1
    have hjf : j ≠ f := by
      rintro rfl
      obtain ⟨e, he, hb, hon⟩ := hf oj hoj
      exact hnot e he hb hon
    have hstep := wpOp_putIf hoj (hfree j oj hoj hji hjun hnot) (fun cs b => hsel i oi cs b hi) (fun cs b => hsel j oj cs b hoj) hQ hy (H.2 j (ready_mono hj hji))
    refine wpOp_mono (fun a' w' hk => ?_) hstep
    have hSw := hk.2.1 hjf
    refine ⟨fun _ => hSw, ih (listed.setIfInBounds j true) a' w' ?_ (ready_mono hr (Ne.symm hji)) hk.1 hSw ?_⟩
    · intro k ok hok hki hun hno
      refine hfree k ok hok hki ?_ hno
      by_cases hjk : j = k
      · subst hjk; exact hjun
      · rw [getD_set_ne true hjk] at hun; exact hun
    · rw [Array.setIfInBounds_comm _ _ hji]; exact hk.2.2

/-- does number f wait for number i? -/
def waitsFor (md : Region.Mode) (ops : Array Oper) (f i : Nat) : Bool := match ops[f]? with
  | some o => o.after.any fun e => Region.binds md e && e.on == i
  | none => true

/-- take number i first -/
theorem wpBut_take {i : Nat} {oi : Oper} {v : Value} {n : Nat} {listed : Array Bool} {a : Act} {w : World} (hi : ops[i]? = some oi) (hs : Region.noSelect ops = true) (hfr : Region.free md ops listed i = true)
    (hr : (Region.ready md ops listed).contains i = true) (hif : (i == f) = false) (hf : waitsFor md ops f i = true) (hQ : ∀ c a w, Q (.panic c) (a.put oi.dst v) w → Q (.panic c) a w) (hy : YieldsIf P ops S oi v a) (hS : S w)
    (h : wpBut P md ops Q f S n (listed.setIfInBounds i true) (a.put oi.dst v) w) : wpBut P md ops Q f S (n + 1) listed a w := by
  refine wpBut_gen hi (Region.noSelect_spec hs) (by simpa using hif) (fun o ho => ?_) hQ n listed a w (Region.free_spec hi hfr) (by simpa using hr) hy hS h
  unfold waitsFor at hf
  rw [ho] at hf
  simp only [Array.any_eq_true'] at hf
  obtain ⟨e, he, hb⟩ := hf
  simp only [Bool.and_eq_true, beq_iff_eq] at hb
  exact ⟨e, he, hb.1, hb.2⟩

theorem yieldsIf_load_row {oi : Oper} {a : Act} (hw : Region.wanted oi (yielded ops a.tmps) = true) (ty : TypeId) (x : Operand) (ho : oi.op = .load ty x) (g : Nat) (hx : a.eval x = .pointer (some ⟨g, 0, none⟩)) (t : TypeId) (cs : Array Value)
    {d : TypeDesc} (hS : ∀ w, S w → w.heap[g]? = some (.cells cs t (0, 0))) (hu : P.underlying ty = some d) (hd : (match d with | .struct _ | .array _ _ => true | _ => false) = true) (hi : (P.info? ty).map (·.size) = some cs.size) :
    YieldsIf P ops S oi (.agg cs) a := by
  refine Or.inl ⟨hw, fun w h => ?_⟩
  unfold execOp
  simp only [ho, hx, Instr.loadAt, Instr.sureAddr, Sem.run_bind, Sem.run_pure, Result.andThen_ok, run_loadVar_row w g t ty cs (0, 0) d (hS w h) hu hd hi]

/-- one operation alone may come up -/
theorem wpBut_one {i : Nat} {oi : Oper} {n : Nat} {listed : Array Bool} {a : Act} {w : World} (hr : Region.ready md ops listed = [i]) (hi : ops[i]? = some oi)
    (h : ∀ K : Act → World → Prop, Shut (∀ a' w', (i ≠ f → S w') → wpBut P md ops Q f S n (listed.setIfInBounds i true) a' w' → K a' w') → if Region.wanted oi (yielded ops a.tmps) = true then Oper.wp P oi a w K Q else K (a.put oi.dst undef) w) :
    wpBut P md ops Q f S (n + 1) listed a w := by
  refine ⟨fun h0 => (by rw [hr] at h0; cases h0), fun j hj => ?_⟩
  rw [hr] at hj
  obtain rfl : j = i := by simpa using hj
  exact wpOp_step hi fun K hK => h K fun a' w' hS hW => hK a' w' ⟨hS, hW⟩


theorem wpBut_done {n : Nat} {listed : Array Bool} {a : Act} {w : World} (hr : Region.ready md ops listed = []) (h : Q .normal a w) : wpBut P md ops Q f S n listed a w := by
  cases n with
  | zero => exact ⟨hr, h⟩
  | succ n => exact ⟨fun _ => h, by rw [hr]; simp⟩

theorem wp_region_but {id : Nat} {a : Act} {w : World} (f : Nat) (S : World → Prop) (hm : P.follows .mixedOrders = true)
    (h : wpBut P .any ops Q f S ops.size (Array.replicate ops.size false) a w.drew) : (Code.region id ops true).wp P Q a w :=
  wp_region_any hm (wpAny_of_but _ _ _ _ h)

/-- the condition: nothing that was there when the region began has turned -/
theorem wp_region_below {id : Nat} {a : Act} {w : World} (f : Nat) (hm : P.follows .mixedOrders = true)
    (h : ∀ W0 : World, W0 = w → wpBut P .any ops Q f (fun w' => Go.RowKit.Below W0.heap.size W0 w') ops.size (Array.replicate ops.size false) a W0.drew) : (Code.region id ops true).wp P Q a w :=
  wp_region_but f _ hm (h w rfl)
end Go
end
section
namespace Go.Proofs.Ytjiagjonlcadiaa
open Go.RowKit Go.Lib

theorem PP_pos : 0 < PP := by decide +kernel
theorem lt_p22 (n : Nat) (h : n < 57896044618658097711785492504343953926634992332820282019728792003956564819968) : n < 4096 ^ 22 := Nat.lt_trans h (by decide +kernel)

set_option maxRecDepth 100000 in
set_option maxHeartbeats 4000000 in
theorem least_any (n : Nat) (f : Nat → Int) (hf : Inv1 n 0 f) (w : World) :
    Calls Try.prog 78 #[.agg (row .i64 44 f)] w fun e w' => e = .returned (.agg (r22 (n % PP))) ∧ Below w.heap.size w w' := by
  have HF := Lib.hid hf; clear hf
  go_enter Try.func78, Try.ntmps78
  go_wp2_with fail
  go_loopw [3] (fun i wr => ∃ (k : Nat) (h : Nat → Int), k ≤ 5 ∧ i = .int .i64 k ∧ Inv1 n k h ∧ Has wr w.heap.size (row .i64 44 h) 101 ∧ HasN wr (w.heap.size + 1) 22 40 ∧ Below w.heap.size w wr) (fun i _ => 5 - (intOf i).toNat)
  case atStart => exact ⟨0, f, by omega, rfl, HF.out, (Has.new _ _ _).alloc _, HasN.new1 _ _ _ _ 22 rfl, below_2 _ _ _⟩
  case round =>
    obtain ⟨k, h, hk, rfl, hI, m0, m1, hB⟩ := hrel
    have M0 := Lib.hid m0; clear m0
    have M1 := Lib.hid m1; clear m1
    have HI := Lib.hid hI; clear hI
    by_cases hlt : k < 5
    · -- the pass of the carry
      go_wp2_with fail
      obtain ⟨w1, rfl⟩ : ∃ w1 : World, w1 = wr := ⟨_, rfl⟩
      go_loopw [4, 5] (fun c i wr => ∃ (j : Nat) (g : Nat → Int) (cv : Int), j ≤ 44 ∧ i = .int .i64 j ∧ c = .int .i64 cv ∧ 0 ≤ cv ∧ cv ≤ 1073741824 ∧ (∀ l, j ≤ l → g l = h l) ∧ (∀ l, l < j → 0 ≤ g l ∧ g l < 4096) ∧ sumf 4096 g j + cv * 4096 ^ j = sumf 4096 h j ∧ Has wr w.heap.size (row .i64 44 g) 101 ∧ HasN wr (w.heap.size + 1) 22 40 ∧ Below w.heap.size w wr) (fun _ i _ => 44 - (intOf i).toNat)
      case atStart => exact ⟨0, h, 0, by omega, rfl, rfl, by omega, by omega, fun _ _ => rfl, fun l hl => by omega, by simp [sumf], M0.out, M1.out, hB⟩
      case round =>
        obtain ⟨j, g, cv, hj, rfl, rfl, hc0, hc1, hg, hd, hs, m0, m1, hB'⟩ := hrel
        have N0 := Lib.hid m0; clear m0
        have N1 := Lib.hid m1; clear m1
        have HG := Lib.hid hg; clear hg
        have HD := Lib.hid hd; clear hd
        have HS := Lib.hid hs; clear hs
        by_cases hjl : j < 44
        · have h1 := N0.out.cell j hjl
          have hfz := N0.out.frozen j
          have hx1 := HI.out.bd j hjl
          rw [← HG.out j (Nat.le_refl _)] at hx1
          obtain ⟨x, hx⟩ : ∃ x, x = g j := ⟨_, rfl⟩
          rw [← hx] at h1 hx1
          have Hx := Lib.hid hx; clear hx
          obtain ⟨hx0, hx1⟩ := hx1
          go_wp2_with fail
          go_roundw
          case measure => simp [intOf]; omega
          case rel =>
            refine ⟨j + 1, upd g j ((x + cv) % 4096), (x + cv) / 4096, by omega, by go_num, rfl, by omega, by omega, ?_, ?_, ?_, N0.out.set _ _, N1.out.other _ _ (by simp), hB'.setCell (by simp) _⟩
            · intro l hl; rw [upd_ne _ _ _ _ (by omega)]; exact HG.out l (by omega)
            · intro l hl
              by_cases e : l = j
              · subst e; rw [upd_same]; omega
              · rw [upd_ne _ _ _ _ e]; exact HD.out l (by omega)
            · simp only [sumf]
              rw [sumf_upd_above _ _ _ _ _ (Nat.le_refl _), upd_same, ← HG.out j (Nat.le_refl _), ← Hx.out, Int.pow_succ]
              exact carry_step _ _ _ _ _ _ _ HS.out (by omega)
        · obtain rfl : j = 44 := by omega
          have hI2 := inv2_of n k h g cv HI.out hc0 HD.out HS.out
          have HI2 := Lib.hid hI2; clear hI2
          clear HD HS HG hjl hj M0 M1 HI hB
          -- the fold
          go_wp2_with fail
          obtain ⟨w2, rfl⟩ : ∃ w2 : World, w2 = wr := ⟨_, rfl⟩
          go_loopw [7] (fun i wr => ∃ (j : Nat) (u : Nat → Int), j ≤ 22 ∧ i = .int .i64 j ∧ (∀ l, l < j → u l = g l + 9728 * g (l + 22) ∧ u (l + 22) = 0) ∧ (∀ l, j ≤ l → l < 22 → u l = g l ∧ u (l + 22) = g (l + 22)) ∧ Has wr w.heap.size (row .i64 44 u) 101 ∧ HasN wr (w.heap.size + 1) 22 40 ∧ Below w.heap.size w wr) (fun i _ => 22 - (intOf i).toNat)
          case atStart => exact ⟨0, g, by omega, rfl, fun l hl => by omega, fun _ _ _ => ⟨rfl, rfl⟩, N0.out, N1.out, hB'⟩
          case round =>
            obtain ⟨j, u, hj, rfl, hu1, hu2, m0, m1, hB⟩ := hrel
            have O0 := Lib.hid m0; clear m0
            have O1 := Lib.hid m1; clear m1
            have HU1 := Lib.hid hu1; clear hu1
            have HU2 := Lib.hid hu2; clear hu2
            by_cases hjl : j < 22
            · have h1 := O0.out.cell j (by omega)
              have h2 := O0.out.cell (j + 22) (by omega)
              have hf1 := O0.out.frozen j
              have hf2 := O0.out.frozen (j + 22)
              have hy1 := HI2.out.bd j (by omega)
              have hz1 := HI2.out.bd (j + 22) (by omega)
              rw [← (HU2.out j (Nat.le_refl _) hjl).1] at hy1
              rw [← (HU2.out j (Nat.le_refl _) hjl).2] at hz1
              obtain ⟨y, hy⟩ : ∃ y, y = u j := ⟨_, rfl⟩
              obtain ⟨z, hz⟩ : ∃ z, z = u (j + 22) := ⟨_, rfl⟩
              rw [← hy] at h1 hy1
              rw [← hz] at h2 hz1
              have Hy := Lib.hid hy; clear hy
              have Hz := Lib.hid hz; clear hz
              obtain ⟨hy0, hy1⟩ := hy1
              obtain ⟨hz0, hz1⟩ := hz1
              have hne : (j = j + 22) = False := by simp
              go_wp2_with fail
              go_region
              go_wp2_with fail
              go_roundw
              case measure => simp [intOf]; omega
              case rel =>
                refine ⟨j + 1, upd (upd u j (y + 9728 * z)) (j + 22) 0, by omega, by go_num, ?_, ?_, (O0.out.set _ _).set _ _, (O1.out.other _ _ (by simp)).other _ _ (by simp), ((hB.setCell (Nat.le_refl _) _).setCell (Nat.le_refl _) _).drew⟩
                · intro l hl
                  by_cases e : l = j
                  · subst e
                    rw [upd_ne _ _ _ _ (by omega), upd_same, upd_same, Hy.out, Hz.out, (HU2.out l (Nat.le_refl _) hjl).1, (HU2.out l (Nat.le_refl _) hjl).2]
                    exact ⟨rfl, rfl⟩
                  · rw [upd_ne _ _ _ _ (by omega), upd_ne _ _ _ _ e, upd_ne _ _ _ _ (by omega), upd_ne _ _ _ _ (by omega)]
                    exact HU1.out l (by omega)
                · intro l hl hl'
                  rw [upd_ne _ _ _ _ (by omega), upd_ne _ _ _ _ (by omega), upd_ne _ _ _ _ (by omega), upd_ne _ _ _ _ (by omega)]
                  exact HU2.out l (by omega) hl'
            · obtain rfl : j = 22 := by omega
              have hI1 := inv1_of n k g hlt HI2.out u (fun i hi => (HU1.out i hi).1) (fun i hi hi' => by
                have := (HU1.out (i - 22) (by omega)).2
                rwa [show i - 22 + 22 = i by omega] at this)
              have HI1 := Lib.hid hI1; clear hI1
              clear HU1 HU2 hjl hj N0 N1 HI2 hB'
              go_wp2_with fail
              go_roundw
              case measure => simp [intOf]; omega
              case rel => exact ⟨k + 1, u, by omega, by go_num, HI1.out, O0.out, O1.out, hB⟩
    · obtain rfl : k = 5 := by omega
      have HI4 := Lib.hid (inv4_of n h HI.out)
      clear HI hlt hk HF
      go_wp2_with fail
      obtain ⟨w1, rfl⟩ : ∃ w1 : World, w1 = wr := ⟨_, rfl⟩
      -- what is beyond 255 bits
      go_loopw [8] (fun i wr => ∃ (k : Nat) (h : Nat → Int), k ≤ 2 ∧ i = .int .i64 k ∧ Inv4 n k h ∧ Has wr w.heap.size (row .i64 44 h) 101 ∧ HasN wr (w.heap.size + 1) 22 40 ∧ Below w.heap.size w wr) (fun i _ => 2 - (intOf i).toNat)
      case atStart => exact ⟨0, h, by omega, rfl, HI4.out, M0.out, M1.out, hB⟩
      case round =>
        clear M0 M1 HI4 hB
        obtain ⟨k, h, hk, rfl, hI, m0, m1, hB⟩ := hrel
        have M0 := Lib.hid m0; clear m0
        have M1 := Lib.hid m1; clear m1
        have HI := Lib.hid hI; clear hI
        by_cases hlt : k < 2
        · have h1 := M0.out.cell 0 (by omega)
          have h2 := M0.out.cell 21 (by omega)
          have hf1 := M0.out.frozen 0
          have hf2 := M0.out.frozen 21
          have hy1 := HI.out.bd 0 (by omega)
          have hz1 := HI.out.bd 21 (by omega)
          obtain ⟨y, hy⟩ : ∃ y, y = h 0 := ⟨_, rfl⟩
          obtain ⟨z, hz⟩ : ∃ z, z = h 21 := ⟨_, rfl⟩
          rw [← hy] at h1 hy1
          rw [← hz] at h2 hz1
          have hm : mid h = upd (upd h 21 (z % 8)) 0 (y + 19 * (z / 8)) := by rw [hy, hz]; rfl
          have m2 := (M0.out.set 21 (z % 8)).set 0 (y + 19 * (z / 8))
          rw [← hm] at m2
          have M2 := Lib.hid m2; clear m2
          have hM1 := (M1.out.other ⟨w.heap.size, 21, none⟩ (.int .i64 (z % 8)) (by simp)).other ⟨w.heap.size, 0, none⟩ (.int .i64 (y + 19 * (z / 8))) (by simp)
          have M3 := Lib.hid hM1; clear hM1
          have hB2 := (hB.setCell (p := ⟨w.heap.size, 21, none⟩) (by simp) (.int .i64 (z % 8))).setCell (p := ⟨w.heap.size, 0, none⟩) (by simp) (.int .i64 (y + 19 * (z / 8)))
          have HB2 := Lib.hid hB2; clear hB2
          have Hy := Lib.hid hy; clear hy
          have Hz := Lib.hid hz; clear hz
          have Hm := Lib.hid hm; clear hm
          obtain ⟨hy0, hy1⟩ := hy1
          obtain ⟨hz0, hz1⟩ := hz1
          go_wp2_with fail
          go_loopw [10] (fun i wr => ∃ (j : Nat) (g : Nat → Int), j ≤ 21 ∧ i = .int .i64 j ∧ (∀ l, l < j → 0 ≤ g l ∧ g l < 4096) ∧ (∀ l, j < l → l < 22 → g l = mid h l) ∧ 0 ≤ g j ∧ g j ≤ 1048576 ∧ sumf 4096 g 22 = sumf 4096 (mid h) 22 ∧ Has wr w.heap.size (row .i64 44 g) 101 ∧ HasN wr (w.heap.size + 1) 22 40 ∧ Below w.heap.size w wr) (fun i _ => 21 - (intOf i).toNat)
          case atStart =>
            have hb := mid_bd h HI.out.bd 0 (by omega)
            exact ⟨0, mid h, by omega, rfl, fun l hl => by omega, fun _ _ _ => rfl, hb.1, by omega, rfl, M2.out, M3.out, HB2.out⟩
          case round =>
            obtain ⟨j, g, hj, rfl, hg1, hg2, hg3, hg4, hs, m0, m1, hB'⟩ := hrel
            clear M2 M3 h1 h2 hf1 hf2
            have N0 := Lib.hid m0; clear m0
            have N1 := Lib.hid m1; clear m1
            have HG1 := Lib.hid hg1; clear hg1
            have HG2 := Lib.hid hg2; clear hg2
            have HS := Lib.hid hs; clear hs
            by_cases hjl : j < 21
            · have h1 := N0.out.cell j (by omega)
              have h2 := N0.out.cell (j + 1) (by omega)
              have hf1 := N0.out.frozen j
              have hf2 := N0.out.frozen (j + 1)
              have hv1 := mid_bd h HI.out.bd (j + 1) (by omega)
              rw [← HG2.out (j + 1) (by omega) (by omega)] at hv1
              obtain ⟨u, hu⟩ : ∃ u, u = g j := ⟨_, rfl⟩
              obtain ⟨v, hv⟩ : ∃ v, v = g (j + 1) := ⟨_, rfl⟩
              rw [← hu] at h1 hg3 hg4
              rw [← hv] at h2 hv1
              have Hu := Lib.hid hu; clear hu
              have Hv := Lib.hid hv; clear hv
              obtain ⟨hv0, hv1⟩ := hv1
              have hne : (j + 1 = j) = False := by simp
              go_wp2_with fail
              go_region
              go_wp2_with fail
              go_roundw
              case measure => simp [intOf]; omega
              case rel =>
                refine ⟨j + 1, upd (upd g (j + 1) (v + u / 4096)) j (u % 4096), by omega, by go_num, ?_, ?_, ?_, ?_, ?_, (N0.out.set _ _).set _ _, (N1.out.other _ _ (by simp)).other _ _ (by simp), ((hB'.setCell (Nat.le_refl _) _).setCell (Nat.le_refl _) _).drew⟩
                · intro l hl
                  by_cases e : l = j
                  · subst e; rw [upd_same]; omega
                  · rw [upd_ne _ _ _ _ e, upd_ne _ _ _ _ (by omega)]; exact HG1.out l (by omega)
                · intro l hl hl'
                  rw [upd_ne _ _ _ _ (by omega), upd_ne _ _ _ _ (by omega)]; exact HG2.out l (by omega) hl'
                · rw [upd_ne _ _ _ _ (by omega), upd_same]; omega
                · rw [upd_ne _ _ _ _ (by omega), upd_same]; omega
                · rw [Hu.out, Hv.out, pass_sum g j hjl]; exact HS.out
            · obtain rfl : j = 21 := by omega
              have hI1 := inv4_step n k h g hlt HI.out HG1.out hg3 HS.out
              have HI1 := Lib.hid hI1; clear hI1
              clear HG1 HG2 HS hjl hj hg3 hg4
              go_wp2_with fail
              go_roundw
              case measure => simp [intOf]; omega
              case rel => exact ⟨k + 1, g, by omega, by go_num, HI1.out, N0.out, N1.out, hB'⟩
        · obtain rfl : k = 2 := by omega
          have HI4 := Lib.hid (inv4_end n h HI.out)
          clear HI hlt hk
          go_wp2_with fail
          have hlt1 := M1.out.lt
          have hne : ¬ wr.heap.size = w.heap.size := by omega
          have hne' : ¬ w.heap.size = wr.heap.size := by omega
          have N0 := Lib.hid (M0.out.alloc (.cells (row .i64 22 fun _ => 0) 40))
          have N1 := Lib.hid (M1.out.alloc (.cells (row .i64 22 fun _ => 0) 40))
          have N2 := Lib.hid (Has.new wr (row .i64 22 fun _ => 0) 40)
          have HB := Lib.hid (hB.alloc (by omega) (.cells (row .i64 22 fun _ => 0) 40))
          clear M0 M1 hB
          obtain ⟨w3, rfl⟩ : ∃ w3 : World, w3 = wr := ⟨_, rfl⟩
          go_loopw [12] (fun i wx => ∃ (j : Nat) (g : Nat → Int), j ≤ 22 ∧ i = .int .i64 j ∧ (∀ l, l < j → g l = h l) ∧ Has wx w.heap.size (row .i64 44 h) 101 ∧ HasN wx (w.heap.size + 1) 22 40 ∧ Has wx w3.heap.size (row .i64 22 g) 40 ∧ Below w.heap.size w wx) (fun i _ => 22 - (intOf i).toNat)
          case atStart => exact ⟨0, fun _ => 0, by omega, rfl, fun l hl => by omega, N0.out, N1.out, N2.out, HB.out⟩
          case round =>
            clear N0 N1 N2 HB
            obtain ⟨j, g, hj, rfl, hg, m0, m1, m2, hB⟩ := hrel
            have N0 := Lib.hid m0; clear m0
            have N1 := Lib.hid m1; clear m1
            have N2 := Lib.hid m2; clear m2
            have HG := Lib.hid hg; clear hg
            by_cases hjl : j < 22
            · have h1 := N0.out.cell j (by omega)
              have h2 := N2.out.cell j (by omega)
              have hf2 := N2.out.frozen j
              obtain ⟨u, hu⟩ : ∃ u, u = h j := ⟨_, rfl⟩
              rw [← hu] at h1
              have Hu := Lib.hid hu; clear hu
              go_wp2_with fail
              go_roundw
              case measure => simp [intOf]; omega
              case rel =>
                refine ⟨j + 1, upd g j u, by omega, by go_num, ?_, N0.out.other _ _ (by simpa using hne'), N1.out.other _ _ (by simp; omega), N2.out.set _ _, hB.setCell (by simp; omega) _⟩
                intro l hl
                by_cases e : l = j
                · subst e; rw [upd_same, Hu.out]
                · rw [upd_ne _ _ _ _ e]; exact HG.out l (by omega)
            · obtain rfl : j = 22 := by omega
              obtain ⟨m, hm, hmod, hm255⟩ := HI4.out
              rw [← row_ext _ _ _ _ HG.out] at hm
              have m2 := N2.out
              rw [hm] at m2
              have O2 := Lib.hid m2; clear m2
              have HM := Lib.hid hmod; clear hmod
              have HM2 := Lib.hid hm255; clear hm255 hm
              clear N2 HG hjl hj HI4 N0
              go_wp2_with fail
              obtain ⟨w4, rfl⟩ : ∃ w4 : World, w4 = wr := ⟨_, rfl⟩
              go_loopg [101] m (fun gk _ wx => gk % PP = n % PP ∧ gk < 57896044618658097711785492504343953926634992332820282019728792003956564819968 ∧ HasN wx (w.heap.size + 1) 22 40 ∧ Has wx w3.heap.size (r22 gk) 40 ∧ Below w.heap.size w wx)
              case atStart => exact ⟨HM.out, HM2.out, N1.out, O2.out, hB⟩
              case round =>
                clear N1 O2 HM HM2 hB
                obtain ⟨hmod, h255, n1, m2, hB⟩ := hrel
                have N1 := Lib.hid n1; clear n1
                have M2 := Lib.hid m2; clear m2
                have HM := Lib.hid hmod; clear hmod
                have H255 := Lib.hid h255; clear h255
                obtain ⟨w5, rfl⟩ : ∃ w5 : World, w5 = wr := ⟨_, rfl⟩
                have hlt5 := M2.out.lt
                have hu := Try.underlying40
                have hi : (Try.prog.info? 40).map (·.size) = some (rowl .i64 22 (dg 4096 gk)).length := by rw [rowl_len]; kernel_rfl
                have hR : w5.rangeAt w3.heap.size 0 (rowl .i64 22 (dg 4096 gk)) := M2.out.range
                have hgk : gk < 4096 ^ 22 := lt_p22 _ H255.out
                have HGK := Lib.hid hgk; clear hgk
                have HB := Lib.hid hB; clear hB
                by_cases hp : gk < PP
                · have hd : decide (gk < PP) = true := by simpa using hp
                  have hres : gk = n % PP := by rw [← HM.out, Nat.mod_eq_of_lt hp]
                  have HR := Lib.hid hres; clear hres hp
                  have Hd := Lib.hid hd; clear hd
                  go_wp2_with fail
                  go_region_held3 (fun w' => Below w5.heap.size w5 w' ∧ w'.rangeAt w3.heap.size 0 (rowl .i64 22 (dg 4096 gk)))
                    ((first | assumption | exact ⟨(Below.refl _ _).drew, hR⟩ | (have hk := held_next (‹Below w5.heap.size w5 _ ∧ _›).1 hb; exact ⟨hk, range_below hR hk hlt5⟩)))
                    ((first | (go_at_call 82; refine (prime_any _).mono ?_; rintro e w1 ⟨rfl, hb⟩) | (go_at_call 109; refine (below_any gk PP HGK.out PP_lt _).mono ?_; rintro e w1 ⟨rfl, hb⟩; rw [Hd.out])))
                  have hH := Lib.hid (‹Below w5.heap.size w5 _ ∧ _›).1
                  have P2 := Lib.hid (M2.out.below hH.out hlt5)
                  obtain ⟨Z, hZ, m1⟩ := N1.out.below hH.out N1.out.lt
                  have P1 := Lib.hid m1; clear m1
                  have HZ := Lib.hid hZ; clear hZ
                  have HBB := Lib.hid ((below_setRow (HB.out.trans (hH.out.mono HB.out.size)) (w.heap.size + 1) (r22 gk) (by omega)))
                  clear hR hu hi
                  go_wp2_with (first | (refine wpList_load_row rfl 40 _ rfl w3.heap.size rfl 40 (r22 gk) (0, 0) _ P2.out Try.underlying40 rfl (by rw [r22_size]; kernel_rfl) ?_) | (refine wpList_store_row rfl 40 _ _ rfl (w.heap.size + 1) _ rfl rfl 40 Z P1.out (by rw [r22_size]; kernel_rfl) (HZ.out.trans (r22_size _).symm) (row_one _ _ _) ?_))
                  exact bodyPost_ret (v := .agg (r22 (n % PP))) (results_cell_row (t := 40) (by rfl) _ _ (w.heap.size + 1) _ _ _ rfl ((P1.out.setRow _).trans (by rw [← HR.out])) Try.underlying40 rfl (by rw [r22_size]; kernel_rfl)) rfl ⟨rfl, HBB.out⟩
                · have hd : decide (gk < PP) = false := by simpa using hp
                  have Hp := Lib.hid (Nat.not_lt.1 hp); clear hp
                  have Hd := Lib.hid hd; clear hd
                  go_wp2_with fail
                  go_region_held3 (fun w' => Below w5.heap.size w5 w' ∧ w'.rangeAt w3.heap.size 0 (rowl .i64 22 (dg 4096 gk)))
                    ((first | exact ⟨(Below.refl _ _).drew, hR⟩ | exact (‹Below w5.heap.size w5 _ ∧ _›) | (have hk := held_next (‹Below w5.heap.size w5 _ ∧ _›).1 hb; exact ⟨hk, range_below hR hk hlt5⟩)))
                    ((first | (go_at_call 82; refine (prime_any _).mono ?_; rintro e w1 ⟨rfl, hb⟩) | (go_at_call 109; refine (below_any gk PP HGK.out PP_lt _).mono ?_; rintro e w1 ⟨rfl, hb⟩; rw [Hd.out])))
                  have hH := Lib.hid (‹Below w5.heap.size w5 _ ∧ _›).1
                  obtain ⟨w6, rfl⟩ : ∃ w6 : World, w6 = w1 := ⟨_, rfl⟩
                  have P2 := Lib.hid (M2.out.below hH.out hlt5)
                  have P1 := Lib.hid (N1.out.below hH.out N1.out.lt)
                  have HBB := Lib.hid (HB.out.trans (hH.out.mono HB.out.size))
                  clear hR
                  obtain ⟨gd, hgd⟩ : ∃ d, d = gk - PP := ⟨_, rfl⟩
                  have hl := fun w => less_any gk PP Hp.out HGK.out w
                  rw [← hgd] at hl
                  have HL := Lib.hid hl; clear hl
                  have He := Lib.hid hgd; clear hgd
                  have hlt6 := P2.out.lt
                  obtain ⟨gd, hgd⟩ : ∃ d, d = gk - PP := ⟨_, rfl⟩
                  have hl := fun w => less_any gk PP Hp.out HGK.out w
                  rw [← hgd] at hl
                  have HL := Lib.hid hl; clear hl
                  have He := Lib.hid hgd; clear hgd
                  clear hi hu
                  go_wp2_with fail
                  refine wp_region_noPanic ?_
                  refine wp_region_but 3 (fun w' => Below w6.heap.size w6 w' ∧ Has w' w3.heap.size (r22 gk) 40) (by kernel_rfl) ?_
                  refine wpBut_take (i := 0) rfl (by kernel_rfl) (by kernel_rfl) (by kernel_rfl) (by kernel_rfl) (by kernel_rfl) (fun _ _ _ h => h) (yieldsIf_load_row (by rfl) 40 _ rfl w3.heap.size rfl 40 (r22 gk) (fun w h => h.2) Try.underlying40 rfl (by rw [r22_size]; kernel_rfl)) ⟨(Below.refl _ _).drew, P2.out⟩ ?_
                  simp only [Act.put, List.setIfInBounds_toArray]
                  refine wpBut_one (i := 1) (by kernel_rfl) rfl (fun K hK => ?_)
                  go_simp
                  go_at_call 82
                  refine (prime_any _).mono ?_
                  rintro e w7 ⟨rfl, hb⟩
                  refine hK.out _ _ (fun _ => ⟨held_next (Below.refl _ _).drew hb, P2.out.below (held_next (Below.refl _ _).drew hb) hlt6⟩) ?_
                  have hk7 := held_next (w4 := w6) (Below.refl _ _).drew hb
                  clear hK K hb
                  refine wpBut_one (i := 2) (by kernel_rfl) rfl (fun K hK => ?_)
                  go_simp
                  go_at_call 81
                  refine (HL.out _).mono ?_
                  rintro e w8 ⟨rfl, hb⟩
                  have hk8 := held_next hk7 hb
                  refine hK.out _ _ (fun _ => ⟨hk8, P2.out.below hk8 hlt6⟩) ?_
                  clear hK K hb hk7
                  refine wpBut_one (i := 3) (by kernel_rfl) rfl (fun K hK => ?_)
                  rw [if_pos (by rfl)]
                  refine wp_store_row 40 _ _ rfl w3.heap.size _ rfl rfl 40 (r22 gk) (P2.out.below hk8 hlt6) (by rw [r22_size]; kernel_rfl) ((r22_size _).trans (r22_size _).symm) (row_one _ _ _) ?_
                  refine hK.out _ _ (fun h => (h rfl).elim) ?_
                  clear hK K
                  simp only [Act.put, List.setIfInBounds_toArray]
                  refine wpBut_done (by kernel_rfl) (NoPanic.normal ?_)
                  go_wp2_with fail
                  go_roundg gd
                  case measure => rw [He.out]; exact Nat.sub_lt (Nat.lt_of_lt_of_le PP_pos Hp.out) PP_pos
                  case rel =>
                    refine ⟨?_, ?_, (P1.out.below hk8 P1.out.lt).setRow_other _ _ (by omega), (P2.out.below hk8 hlt6).setRow _, below_setRow (HBB.out.trans (hk8.mono HBB.out.size)) _ _ (by omega)⟩
                    · rw [He.out, ← HM.out]; exact (Nat.mod_eq_sub_mod Hp.out).symm
                    · rw [He.out]; exact Nat.lt_of_le_of_lt (Nat.sub_le _ _) H255.out
end Go.Proofs.Ytjiagjonlcadiaa
end
section
namespace Go.Proofs.Ytjiagjonlcadiaa
open Go.RowKit Go.Lib

theorem inv1_init (n : Nat) (h : Nat → Int) (hb : ∀ i, i < 44 → 0 ≤ h i ∧ h i ≤ 1099511627776) (hs : sumf 4096 h 44 = n) (hn : n < bnd 0) : Inv1 n 0 h :=
  ⟨hb, ⟨n, hs, rfl, hn⟩, fun h => by omega, fun h => by omega⟩
theorem bnd0 : bnd 0 = 878694100496718043517683302282418331810487718418343092402491322775749527474899974671687634004666183037093927858109549828751614463963730408009475621262727315456 := by unfold bnd; rw [if_pos rfl]
theorem n22 : (4096 : Nat) ^ 22 = 29642774844752946028434172162224104410437116074403984394101141506025761187823616 := by decide +kernel
theorem sumf_dg22 (a : Nat) (ha : a < 4096 ^ 22) : sumf 4096 (dg 4096 a) 22 = a := by
  have := sumf_dg 4096 a 22
  rwa [Nat.mod_eq_of_lt ha] at this
theorem dg_le (n i : Nat) : dg 4096 n i ≤ 4095 := by have := (dg_bd 4096 n i (by decide)).2; omega
theorem dg_nn (n i : Nat) : 0 ≤ dg 4096 n i := (dg_bd 4096 n i (by decide)).1

theorem plus_inv (a b : Nat) (ha : a < 4096 ^ 22) (hb : b < 4096 ^ 22) (h : Nat → Int) (hl : ∀ i, i < 22 → h i = dg 4096 a i + dg 4096 b i) (hh : ∀ i, 22 ≤ i → h i = 0) : Inv1 (a + b) 0 h := by
  refine inv1_init _ h (fun i hi => ?_) ?_ ?_
  · by_cases h2 : i < 22
    · rw [hl i h2]
      have h1 := dg_le a i; have h3 := dg_le b i; have h4 := dg_nn a i; have h5 := dg_nn b i
      omega
    · rw [hh i (by omega)]; omega
  · rw [show (44 : Nat) = 22 + 22 from rfl, sumf_split, sumf_zero 4096 (fun j => h (j + 22)) 22 (fun i hi => hh (i + 22) (by omega)), sumf_congr 4096 h (fun j => dg 4096 a j + 1 * dg 4096 b j) 22 (fun i hi => by rw [hl i hi, Int.one_mul]), sumf_lin, sumf_dg22 a ha, sumf_dg22 b hb]
    omega
  · rw [bnd0]; rw [n22] at ha hb; omega

set_option maxHeartbeats 1000000 in
theorem rplus_any (a b : Nat) (ha : a < 4096 ^ 22) (hb : b < 4096 ^ 22) (w : World) :
    Calls Try.prog 38 #[.agg (r22 a), .agg (r22 b)] w fun e w' => e = .returned (.agg (r22 ((a + b) % PP))) ∧ Below w.heap.size w w' := by
  have HI := Lib.hid (plus_inv a b ha hb); clear ha hb
  go_enter Try.func38, Try.ntmps38
  go_wp2_with fail
  go_loopw [6] (fun i wr => ∃ (k : Nat) (h : Nat → Int), k ≤ 22 ∧ i = .int .i64 k ∧ (∀ j, j < k → h j = dg 4096 a j + dg 4096 b j) ∧ (∀ j, k ≤ j → h j = 0) ∧ Has wr w.heap.size (r22 a) 40 ∧ Has wr (w.heap.size + 1) (r22 b) 40 ∧ HasN wr (w.heap.size + 1 + 1) 22 40 ∧ Has wr (w.heap.size + 1 + 1 + 1) (row .i64 44 h) 101 ∧ Below w.heap.size w wr) (fun i _ => 22 - (intOf i).toNat)
  case atStart =>
    exact ⟨0, fun _ => 0, by omega, rfl, fun j hj => by omega, fun _ _ => rfl, ((Has.new _ _ _).alloc _ |>.alloc _).alloc _, ((Has.new1 _ _ _ _).alloc _).alloc _, (HasN.new2 _ _ _ _ _ 22 rfl).alloc _, Has.new3 _ _ _ _ _ _, below_4 _ _ _ _ _⟩
  case round =>
    obtain ⟨k, h, hk, rfl, hl, hh, m0, m1, m2, m3, hB⟩ := hrel
    have M0 := Lib.hid m0; clear m0
    have M1 := Lib.hid m1; clear m1
    have M2 := Lib.hid m2; clear m2
    have M3 := Lib.hid m3; clear m3
    have HL := Lib.hid hl; clear hl
    have HH := Lib.hid hh; clear hh
    by_cases hlt : k < 22
    · have h1 := M0.out.cell k hlt
      have h2 := M1.out.cell k hlt
      have h3 := M3.out.cell k (by omega)
      have hfz := M3.out.frozen k
      have x0 := dg_nn a k
      have x1 := dg_le a k
      have y0 := dg_nn b k
      have y1 := dg_le b k
      obtain ⟨x, hx⟩ : ∃ x, x = dg 4096 a k := ⟨_, rfl⟩
      obtain ⟨y, hy⟩ : ∃ y, y = dg 4096 b k := ⟨_, rfl⟩
      rw [← hx] at h1 x0 x1
      rw [← hy] at h2 y0 y1
      have Hx := Lib.hid hx; clear hx
      have Hy := Lib.hid hy; clear hy
      go_wp2_with fail
      go_region
      go_wp2_with fail
      go_roundw
      case measure => simp [intOf]; omega
      case rel =>
        refine ⟨k + 1, upd h k (x + y), by omega, by go_num, ?_, ?_, M0.out.other _ _ (by simp <;> omega), M1.out.other _ _ (by simp <;> omega), M2.out.other _ _ (by simp), M3.out.set _ _, (hB.setCell (by simp <;> omega) _).drew⟩
        · intro j hj
          by_cases e : j = k
          · subst e; rw [upd_same, Hx.out, Hy.out]
          · rw [upd_ne _ _ _ _ e]; exact HL.out j (by omega)
        · intro j hj; rw [upd_ne _ _ _ _ (by omega)]; exact HH.out j (by omega)
    · obtain rfl : k = 22 := by omega
      have HC := Lib.hid (HI.out h HL.out HH.out)
      go_wp2_with (first | (refine wpList_load_row rfl 101 _ rfl (w.heap.size + 1 + 1 + 1) rfl 101 (row .i64 44 h) (0, 0) _ M3.out Try.underlying101 rfl (by kernel_rfl) ?_))
      refine (least_any _ h HC.out _).mono ?_
      rintro e w1 ⟨rfl, hb1⟩
      obtain ⟨Z, hZ, m1⟩ := M2.out.below hb1 M2.out.lt
      have P1 := Lib.hid m1; clear m1
      have HZ := Lib.hid hZ; clear hZ
      have HBB := Lib.hid (below_setRow (hB.trans (hb1.mono hB.size)) (w.heap.size + 1 + 1) (r22 ((a + b) % PP)) (by omega))
      clear hb1
      go_wp2_with (refine wpList_store_row rfl 40 _ _ rfl (w.heap.size + 1 + 1) _ rfl rfl 40 Z P1.out (by rw [r22_size]; kernel_rfl) (HZ.out.trans (r22_size _).symm) (row_one _ _ _) ?_)
      exact bodyPost_ret (v := .agg (r22 ((a + b) % PP))) (results_cell_row (t := 40) (by rfl) _ _ (w.heap.size + 1 + 1) _ _ _ rfl (P1.out.setRow _) Try.underlying40 rfl (by rw [r22_size]; kernel_rfl)) rfl ⟨rfl, HBB.out⟩
end Go.Proofs.Ytjiagjonlcadiaa
end
section
namespace Go.Proofs.Ytjiagjonlcadiaa
open Go.RowKit Go.Lib

theorem mul_bd (x y : Int) (hx0 : 0 ≤ x) (hx : x ≤ 4095) (hy0 : 0 ≤ y) (hy : y ≤ 4095) : 0 ≤ x * y ∧ x * y ≤ 16769025 :=
  ⟨Int.mul_nonneg hx0 hy0, by have := Int.mul_le_mul hx hy hy0 (by decide); omega⟩

theorem times_inv (a b : Nat) (ha : a < PP) (hb : b < PP) (h : Nat → Int) (hd : ∀ j, j < 44 → 0 ≤ h j ∧ h j ≤ 484 * 16769025) (hs : sumf 4096 h 44 = sumf 4096 (dg 4096 a) 22 * b) : Inv1 (a * b) 0 h := by
  have h22 := PP_lt
  refine inv1_init _ h (fun i hi => by have := hd i hi; omega) ?_ ?_
  · rw [hs, sumf_dg22 a (by omega)]; norm_cast
  · rw [bnd0]
    have e : PP < 2 ^ 255 := by decide +kernel
    have h1 : a * b < 2 ^ 255 * 2 ^ 255 := Nat.mul_lt_mul'' (by omega) (by omega)
    have e2 : (2 : Nat) ^ 255 * 2 ^ 255 = 3351951982485649274893506249551461531869841455148098344430890360930441007518386744200468574541725856922507964546621512713438470702986642486608412251521024 := by decide +kernel
    omega

set_option maxHeartbeats 1000000 in
theorem rtimes_any (a b : Nat) (ha : a < PP) (hb : b < PP) (w : World) :
    Calls Try.prog 32 #[.agg (r22 a), .agg (r22 b)] w fun e w' => e = .returned (.agg (r22 (a * b % PP))) ∧ Below w.heap.size w w' := by
  have hb2 : (b : Int) = sumf 4096 (dg 4096 b) 22 := (sumf_dg22 b (Nat.lt_trans hb PP_lt)).symm
  have HB2 := Lib.hid hb2; clear hb2
  have HI := Lib.hid (times_inv a b ha hb); clear ha hb
  go_enter Try.func32, Try.ntmps32
  go_wp2_with fail
  go_loopw [6] (fun i wr => ∃ (k : Nat) (h : Nat → Int), k ≤ 22 ∧ i = .int .i64 k ∧ (∀ j, j < 44 → 0 ≤ h j ∧ h j ≤ 22 * (k : Int) * 16769025) ∧ sumf 4096 h 44 = sumf 4096 (dg 4096 a) k * b ∧ Has wr w.heap.size (r22 a) 40 ∧ Has wr (w.heap.size + 1) (r22 b) 40 ∧ HasN wr (w.heap.size + 1 + 1) 22 40 ∧ Has wr (w.heap.size + 1 + 1 + 1) (row .i64 44 h) 101 ∧ Below w.heap.size w wr) (fun i _ => 22 - (intOf i).toNat)
  case atStart =>
    exact ⟨0, fun _ => 0, by omega, rfl, fun j hj => by simp, by rw [sumf_zero _ _ _ (fun _ _ => rfl)]; simp [sumf], ((Has.new _ _ _).alloc _ |>.alloc _).alloc _, ((Has.new1 _ _ _ _).alloc _).alloc _, (HasN.new2 _ _ _ _ _ 22 rfl).alloc _, Has.new3 _ _ _ _ _ _, below_4 _ _ _ _ _⟩
  case round =>
    obtain ⟨i, h0, hi, rfl, hd, hs, m0, m1, m2, m3, hB⟩ := hrel
    have M0 := Lib.hid m0; clear m0
    have M1 := Lib.hid m1; clear m1
    have M2 := Lib.hid m2; clear m2
    have M3 := Lib.hid m3; clear m3
    have HD := Lib.hid hd; clear hd
    have HS := Lib.hid hs; clear hs
    by_cases hlt : i < 22
    · go_wp2_with fail
      obtain ⟨wo, rfl⟩ : ∃ wo : World, wo = wr := ⟨_, rfl⟩
      go_loopw [7] (fun s wr => ∃ (k : Nat) (h : Nat → Int), k ≤ 22 ∧ s = .int .i64 k ∧ (∀ j, j < 44 → 0 ≤ h j ∧ h j ≤ (22 * (i : Int) + k) * 16769025) ∧ sumf 4096 h 44 = sumf 4096 (dg 4096 a) i * b + dg 4096 a i * 4096 ^ i * sumf 4096 (dg 4096 b) k ∧ Has wr w.heap.size (r22 a) 40 ∧ Has wr (w.heap.size + 1) (r22 b) 40 ∧ HasN wr (w.heap.size + 1 + 1) 22 40 ∧ Has wr (w.heap.size + 1 + 1 + 1) (row .i64 44 h) 101 ∧ Below w.heap.size w wr) (fun s _ => 22 - (intOf s).toNat)
      case atStart => exact ⟨0, h0, by omega, rfl, fun j hj => by have := HD.out j hj; omega, by rw [show sumf 4096 (dg 4096 b) 0 = 0 from rfl, Int.mul_zero, Int.add_zero]; exact HS.out, M0.out, M1.out, M2.out, M3.out, hB⟩
      case round =>
        clear M0 M1 M2 M3 hB
        obtain ⟨k, h, hk, rfl, hd, hs, m0, m1, m2, m3, hB⟩ := hrel
        have M0 := Lib.hid m0; clear m0
        have M1 := Lib.hid m1; clear m1
        have M2 := Lib.hid m2; clear m2
        have M3 := Lib.hid m3; clear m3
        have HE := Lib.hid hd; clear hd
        have HT := Lib.hid hs; clear hs
        by_cases hlk : k < 22
        · have h1 := M0.out.cell i hlt
          have h2 := M1.out.cell k hlk
          have h3 := M3.out.cell (i + k) (by omega)
          have hfz := M3.out.frozen (i + k)
          have x0 := dg_nn a i
          have x1 := dg_le a i
          have y0 := dg_nn b k
          have y1 := dg_le b k
          have hz := HE.out (i + k) (by omega)
          obtain ⟨x, hx⟩ : ∃ x, x = dg 4096 a i := ⟨_, rfl⟩
          obtain ⟨y, hy⟩ : ∃ y, y = dg 4096 b k := ⟨_, rfl⟩
          obtain ⟨z, hzz⟩ : ∃ z, z = h (i + k) := ⟨_, rfl⟩
          rw [← hx] at h1 x0 x1
          rw [← hy] at h2 y0 y1
          rw [← hzz] at h3 hz
          have hxy := mul_bd x y x0 x1 y0 y1
          obtain ⟨xy0, xy1⟩ := hxy
          obtain ⟨z0, z1⟩ := hz
          have Hx := Lib.hid hx; clear hx
          have Hy := Lib.hid hy; clear hy
          have Hz := Lib.hid hzz; clear hzz
          go_wp2_with fail
          go_region
          go_wp2_with fail
          go_roundw
          case measure => simp [intOf]; omega
          case rel =>
            refine ⟨k + 1, upd h (i + k) (z + x * y), by omega, by go_num, ?_, ?_, M0.out.other _ _ (by simp <;> omega), M1.out.other _ _ (by simp <;> omega), M2.out.other _ _ (by simp <;> omega), M3.out.set _ _, (hB.setCell (by simp <;> omega) _).drew⟩
            · intro j hj
              by_cases e : j = i + k
              · subst e; rw [upd_same]; omega
              · rw [upd_ne _ _ _ _ e]; have := HE.out j hj; omega
            · rw [sumf_upd _ _ _ _ _ (by omega), HT.out, ← Hz.out, ← Hx.out]
              simp only [sumf]
              rw [← Hy.out, Int.pow_add]
              grind
        · obtain rfl : k = 22 := by omega
          go_wp2_with fail
          go_roundw
          case measure => simp [intOf]; omega
          case rel =>
            refine ⟨i + 1, h, by omega, by go_num, fun j hj => by have := HE.out j hj; omega, ?_, M0.out, M1.out, M2.out, M3.out, hB⟩
            rw [HT.out, ← HB2.out]
            simp only [sumf]
            rw [Int.add_mul]
    · obtain rfl : i = 22 := by omega
      have HC := Lib.hid (HI.out h0 (fun j hj => by have := HD.out j hj; omega) HS.out)
      go_wp2_with (first | (refine wpList_load_row rfl 101 _ rfl (w.heap.size + 1 + 1 + 1) rfl 101 (row .i64 44 h0) (0, 0) _ M3.out Try.underlying101 rfl (by kernel_rfl) ?_))
      refine (least_any _ h0 HC.out _).mono ?_
      rintro e w1 ⟨rfl, hb1⟩
      obtain ⟨Z, hZ, m1⟩ := M2.out.below hb1 M2.out.lt
      have P1 := Lib.hid m1; clear m1
      have HZ := Lib.hid hZ; clear hZ
      have HBB := Lib.hid (below_setRow (hB.trans (hb1.mono hB.size)) (w.heap.size + 1 + 1) (r22 (a * b % PP)) (by omega))
      clear hb1
      go_wp2_with (refine wpList_store_row rfl 40 _ _ rfl (w.heap.size + 1 + 1) _ rfl rfl 40 Z P1.out (by rw [r22_size]; kernel_rfl) (HZ.out.trans (r22_size _).symm) (row_one _ _ _) ?_)
      exact bodyPost_ret (v := .agg (r22 (a * b % PP))) (results_cell_row (t := 40) (by rfl) _ _ (w.heap.size + 1 + 1) _ _ _ rfl (P1.out.setRow _) Try.underlying40 rfl (by rw [r22_size]; kernel_rfl)) rfl ⟨rfl, HBB.out⟩

set_option maxRecDepth 100000 in
set_option maxHeartbeats 1000000 in
theorem rminus_any (a b : Nat) (ha : a < PP) (hb : b < PP) (w : World) :
    Calls Try.prog 40 #[.agg (r22 a), .agg (r22 b)] w fun e w' => e = .returned (.agg (r22 ((a + (PP - b)) % PP))) ∧ Below w.heap.size w w' := by
  have h22 := PP_lt
  have hpb : PP - b < 4096 ^ 22 := Nat.lt_of_le_of_lt (Nat.sub_le _ _) h22
  have ha2 := Nat.lt_trans ha h22
  obtain ⟨d, hd⟩ : ∃ d, d = PP - b := ⟨_, rfl⟩
  have hl := fun w => less_any PP b (Nat.le_of_lt hb) h22 w
  rw [← hd] at hl hpb ⊢
  have hp := fun w => rplus_any a d ha2 hpb w
  obtain ⟨r, hr⟩ : ∃ r, r = (a + d) % PP := ⟨_, rfl⟩
  rw [← hr] at hp ⊢
  have HL := Lib.hid hl; clear hl
  have HP := Lib.hid hp; clear hp
  clear hr hd ha hb h22 hpb ha2
  go_enter Try.func40, Try.ntmps40
  go_wp2_with fail
  refine wp_region_noPanic ?_
  refine wp_region_below 5 (by kernel_rfl) ?_
  intro W0 hW0
  have M0 := Lib.hid (show Has W0 w.heap.size (r22 a) 40 by rw [hW0]; exact ((Has.new _ _ _).alloc _).alloc _)
  have M1 := Lib.hid (show Has W0 (w.heap.size + 1) (r22 b) 40 by rw [hW0]; exact (Has.new1 _ _ _ _).alloc _)
  have M2 := Lib.hid (show HasN W0 (w.heap.size + 1 + 1) 22 40 by rw [hW0]; exact HasN.new2 _ _ _ _ _ 22 rfl)
  have HB := Lib.hid (show Below w.heap.size w W0 by rw [hW0]; exact below_3 _ _ _ _)
  clear hW0
  refine wpBut_take (i := 0) rfl (by kernel_rfl) (by kernel_rfl) (by kernel_rfl) (by kernel_rfl) (by kernel_rfl) (fun _ _ _ h => h) (yieldsIf_load_row (by rfl) 40 _ rfl (w.heap.size) rfl 40 (r22 a) (fun _ h => M0.out.below h M0.out.lt) Try.underlying40 rfl (by rw [r22_size]; kernel_rfl)) ((Below.refl _ _).drew) ?_
  (try simp only [Act.put]); (try simp only [List.setIfInBounds_toArray])
  refine wpBut_take (i := 2) rfl (by kernel_rfl) (by kernel_rfl) (by kernel_rfl) (by kernel_rfl) (by kernel_rfl) (fun _ _ _ h => h) (yieldsIf_load_row (by rfl) 40 _ rfl (w.heap.size + 1) rfl 40 (r22 b) (fun _ h => M1.out.below h M1.out.lt) Try.underlying40 rfl (by rw [r22_size]; kernel_rfl)) ((Below.refl _ _).drew) ?_
  (try simp only [Act.put]); (try simp only [List.setIfInBounds_toArray])
  refine wpBut_one (i := 1) (by kernel_rfl) rfl (fun K hK => ?_)
  go_simp
  go_at_call 82
  refine (prime_any _).mono ?_
  rintro e wW01 ⟨rfl, hb⟩
  have hkW01 := held_next (Below.refl _ _).drew hb
  refine hK.out _ _ (fun _ => hkW01) ?_
  clear hK K hb
  refine wpBut_one (i := 3) (by kernel_rfl) rfl (fun K hK => ?_)
  go_simp
  go_at_call 81
  refine (HL.out _).mono ?_
  rintro e wW02 ⟨rfl, hb⟩
  have hkW02 := held_next hkW01 hb
  refine hK.out _ _ (fun _ => hkW02) ?_
  clear hK K hb
  refine wpBut_one (i := 4) (by kernel_rfl) rfl (fun K hK => ?_)
  go_simp
  go_at_call 38
  refine (HP.out _).mono ?_
  rintro e wW03 ⟨rfl, hb⟩
  have hkW03 := held_next hkW02 hb
  refine hK.out _ _ (fun _ => hkW03) ?_
  clear hK K hb
  obtain ⟨Z, hZ, mZ⟩ := M2.out.below hkW03 M2.out.lt
  have MZ := Lib.hid mZ; clear mZ
  have HZ := Lib.hid hZ; clear hZ
  refine wpBut_one (i := 5) (by kernel_rfl) rfl (fun K hK => ?_)
  rw [if_pos (by rfl)]
  refine wp_store_row 40 _ _ rfl (w.heap.size + 1 + 1) _ rfl rfl 40 Z MZ.out (by rw [r22_size]; kernel_rfl) (HZ.out.trans (r22_size _).symm) (row_one _ _ _) ?_
  refine hK.out _ _ (fun h => (h rfl).elim) ?_
  clear hK K
  (try simp only [Act.put]); (try simp only [List.setIfInBounds_toArray])
  refine wpBut_done (by kernel_rfl) (NoPanic.normal ?_)
  go_wp2_with fail
  exact bodyPost_ret (v := .agg (r22 r)) (results_cell_row (t := 40) (by rfl) _ _ (w.heap.size + 1 + 1) _ _ _ rfl (MZ.out.setRow _) Try.underlying40 rfl (by rw [r22_size]; kernel_rfl)) rfl ⟨rfl, below_setRow (HB.out.trans (hkW03.mono HB.out.size)) _ _ (by omega)⟩
end Go.Proofs.Ytjiagjonlcadiaa
end
section
namespace Go.Proofs.Ytjiagjonlcadiaa
open Go.RowKit Go.Lib

theorem half_fig (n i : Nat) : dg 4096 (n / 2) i = (dg 4096 n i + dg 4096 n (i + 1) % 2 * 4096) / 2 := by
  unfold dg
  have e1 : n / 2 / 4096 ^ i = n / 4096 ^ i / 2 := by rw [Nat.div_div_eq_div_mul, Nat.div_div_eq_div_mul, Nat.mul_comm]
  have e2 : n / 4096 ^ (i + 1) = n / 4096 ^ i / 4096 := by rw [Nat.pow_succ, Nat.div_div_eq_div_mul]
  rw [e1, e2]
  generalize n / 4096 ^ i = q
  omega
theorem half_top (n : Nat) (hn : n < 4096 ^ 22) : dg 4096 n 22 = 0 := by
  unfold dg
  rw [Nat.div_eq_of_lt hn]; rfl
theorem half_last (n : Nat) (hn : n < 4096 ^ 22) : dg 4096 (n / 2) 21 = dg 4096 n 21 / 2 := by
  rw [half_fig, half_top n hn]; omega

set_option maxRecDepth 100000 in
set_option maxHeartbeats 1000000 in
theorem half_any (n : Nat) (hn : n < 4096 ^ 22) (w : World) :
    Calls Try.prog 86 #[.agg (r22 n)] w fun e w' => e = .returned (.agg (r22 (n / 2))) ∧ Below w.heap.size w w' := by
  have HE := Lib.hid (half_fig n)
  have HL := Lib.hid (half_last n hn); clear hn
  obtain ⟨d, hd⟩ : ∃ d, d = n / 2 := ⟨_, rfl⟩
  rw [← hd] at HE HL ⊢
  clear hd
  go_enter Try.func86, Try.ntmps86
  go_wp2_with fail
  go_loopw [3] (fun i wr => ∃ (k : Nat) (h : Nat → Int), k ≤ 22 ∧ i = .int .i64 k ∧ (∀ j, j < k → h j = dg 4096 d j) ∧ (∀ j, k ≤ j → h j = dg 4096 n j) ∧ Has wr w.heap.size (row .i64 22 h) 40 ∧ HasN wr (w.heap.size + 1) 22 40 ∧ Below w.heap.size w wr) (fun i _ => 22 - (intOf i).toNat)
  case atStart => exact ⟨0, dg 4096 n, by omega, rfl, fun j hj => by omega, fun _ _ => rfl, (Has.new _ _ _).alloc _, HasN.new1 _ _ _ _ 22 rfl, below_2 _ _ _⟩
  case round =>
    obtain ⟨k, h, hk, rfl, hl, hh, m0, m1, hB⟩ := hrel
    have M0 := Lib.hid m0; clear m0
    have M1 := Lib.hid m1; clear m1
    have Hl := Lib.hid hl; clear hl
    have Hh := Lib.hid hh; clear hh
    by_cases hlt : k < 22
    · have h1 := M0.out.cell k hlt
      have hfz := M0.out.frozen k
      have x0 := dg_nn n k
      have x1 := dg_le n k
      have y0 := dg_nn n (k + 1)
      have y1 := dg_le n (k + 1)
      rw [Hh.out k (Nat.le_refl _)] at h1
      obtain ⟨x, hx⟩ : ∃ x, x = dg 4096 n k := ⟨_, rfl⟩
      obtain ⟨y, hy⟩ : ∃ y, y = dg 4096 n (k + 1) := ⟨_, rfl⟩
      rw [← hx] at h1 x0 x1
      rw [← hy] at y0 y1
      by_cases hl21 : k < 21
      · have h2 := M0.out.cell (k + 1) (by omega)
        rw [Hh.out (k + 1) (by omega), ← hy] at h2
        have hres : dg 4096 d k = (x + y % 2 * 4096) / 2 := by rw [hx, hy]; exact HE.out k
        have HR := Lib.hid hres; clear hres
        have Hx := Lib.hid hx; clear hx
        have Hy := Lib.hid hy; clear hy
        go_wp2_with fail
        go_roundw
        case measure => simp [intOf]; omega
        case rel =>
          refine ⟨k + 1, upd h k ((x + y % 2 * 4096) / 2), by omega, by go_num, ?_, ?_, M0.out.set _ _, M1.out.other _ _ (by simp <;> omega), hB.setCell (by simp <;> omega) _⟩
          · intro j hj
            by_cases e : j = k
            · subst e; rw [upd_same, HR.out]
            · rw [upd_ne _ _ _ _ e]; exact Hl.out j (by omega)
          · intro j hj; rw [upd_ne _ _ _ _ (by omega)]; exact Hh.out j (by omega)
      · obtain rfl : k = 21 := by omega
        have hres : dg 4096 d 21 = x / 2 := by rw [hx]; exact HL.out
        have HR := Lib.hid hres; clear hres
        have Hx := Lib.hid hx; clear hx
        have Hy := Lib.hid hy; clear hy
        go_wp2_with fail
        go_roundw
        case measure => simp [intOf]
        case rel =>
          refine ⟨22, upd h 21 (x / 2), by omega, by go_num, ?_, ?_, M0.out.set _ _, M1.out.other _ _ (by simp <;> omega), hB.setCell (by simp <;> omega) _⟩
          · intro j hj
            by_cases e : j = 21
            · subst e; rw [upd_same, HR.out]
            · rw [upd_ne _ _ _ _ e]; exact Hl.out j (by omega)
          · intro j hj; rw [upd_ne _ _ _ _ (by omega)]; exact Hh.out j (by omega)
    · obtain rfl : k = 22 := by omega
      have m0 := M0.out
      rw [row_ext .i64 22 h (dg 4096 d) (fun i hi => Hl.out i hi)] at m0
      have M2 := Lib.hid (show Has wr w.heap.size (r22 d) 40 from m0); clear m0
      obtain ⟨Z, hZ, mz⟩ := M1.out
      have MZ := Lib.hid mz; clear mz
      have HZ := Lib.hid hZ; clear hZ
      go_wp2_with (first | (refine wpList_load_row rfl 40 _ rfl (w.heap.size) rfl 40 (r22 d) (0, 0) _ M2.out Try.underlying40 rfl (by rw [r22_size]; kernel_rfl) ?_) | (refine wpList_store_row rfl 40 _ _ rfl (w.heap.size + 1) _ rfl rfl 40 Z MZ.out (by rw [r22_size]; kernel_rfl) (HZ.out.trans (r22_size _).symm) (row_one _ _ _) ?_))
      exact bodyPost_ret (v := .agg (r22 d)) (results_cell_row (t := 40) (by rfl) _ _ (w.heap.size + 1) _ _ _ rfl (MZ.out.setRow _) Try.underlying40 rfl (by rw [r22_size]; kernel_rfl)) rfl ⟨rfl, below_setRow hB _ _ (by omega)⟩
end Go.Proofs.Ytjiagjonlcadiaa
end
section
namespace Go.Proofs.Ytjiagjonlcadiaa
open Go.RowKit Go.Lib
/-- a key's bytes -/
def k32 (n : Nat) : Array Value := row .u8 32 (dg 256 n)
theorem k32_size (n : Nat) : (k32 n).size = 32 := row_size _ _ _

theorem bit8 (n k : Nat) : (n / 256 ^ (k / 8) % 256) / 2 ^ (k % 8) % 2 = n / 2 ^ k % 2 := by
  have e : 2 ^ k = 256 ^ (k / 8) * 2 ^ (k % 8) := by
    rw [show (256 : Nat) = 2 ^ 8 from rfl, ← Nat.pow_mul, ← Nat.pow_add, Nat.div_add_mod]
  rw [e, ← Nat.div_div_eq_div_mul]
  generalize n / 256 ^ (k / 8) = q
  have hr : k % 8 < 8 := Nat.mod_lt _ (by decide)
  generalize k % 8 = r at *
  rcases (show r = 0 ∨ r = 1 ∨ r = 2 ∨ r = 3 ∨ r = 4 ∨ r = 5 ∨ r = 6 ∨ r = 7 by omega) with rfl | rfl | rfl | rfl | rfl | rfl | rfl | rfl <;> simp <;> omega
theorem bit12 (n k : Nat) : (n / 4096 ^ (k / 12) % 4096) / 2 ^ (k % 12) % 2 = n / 2 ^ k % 2 := by
  have e : 2 ^ k = 4096 ^ (k / 12) * 2 ^ (k % 12) := by
    rw [show (4096 : Nat) = 2 ^ 12 from rfl, ← Nat.pow_mul, ← Nat.pow_add, Nat.div_add_mod]
  rw [e, ← Nat.div_div_eq_div_mul]
  generalize n / 4096 ^ (k / 12) = q
  have hr : k % 12 < 12 := Nat.mod_lt _ (by decide)
  generalize k % 12 = r at *
  rcases (show r = 0 ∨ r = 1 ∨ r = 2 ∨ r = 3 ∨ r = 4 ∨ r = 5 ∨ r = 6 ∨ r = 7 ∨ r = 8 ∨ r = 9 ∨ r = 10 ∨ r = 11 by omega) with rfl | rfl | rfl | rfl | rfl | rfl | rfl | rfl | rfl | rfl | rfl | rfl <;> simp <;> omega
theorem pow12 (k : Nat) : (2 : Int) ^ (k % 12) * 4096 ^ (k / 12) = 2 ^ k := by
  rw [show (4096 : Int) = 2 ^ 12 from rfl, ← Int.pow_mul, ← Int.pow_add, Nat.mod_add_div]
theorem mod_succ_pow (n k : Nat) : n % 2 ^ (k + 1) = n % 2 ^ k + n / 2 ^ k % 2 * 2 ^ k := by
  rw [Nat.pow_succ, Nat.mod_mul, Nat.mul_comm]
/-- a figure alone is not more than all -/
theorem fig_le (B : Int) (hB : 0 < B) (f : Nat → Int) (n i : Nat) (hi : i < n) (h : ∀ j, j < n → 0 ≤ f j) : f i * B ^ i ≤ sumf B f n := by
  have h1 := sumf_upd B f n i 0 hi
  have h2 := sumf_nonneg B hB (upd f i 0) n (fun j hj => by
    by_cases e : j = i
    · subst e; rw [upd_same]; omega
    · rw [upd_ne _ _ _ _ e]; exact h j hj)
  rw [h1, Int.zero_sub, Int.neg_mul] at h2
  omega
theorem room12 (h : Nat → Int) (n k : Nat) (hk : k < 264) (hd : ∀ j, j < 44 → 0 ≤ h j ∧ h j < 4096) (hs : sumf 4096 h 44 = ((n % 2 ^ k : Nat) : Int)) : h (k / 12) < 2 ^ (k % 12) := by
  have h1 := fig_le 4096 (by decide) h 44 (k / 12) (by omega) (fun j hj => (hd j hj).1)
  rw [hs] at h1
  have h2 : ((n % 2 ^ k : Nat) : Int) < 2 ^ k := by
    have : n % 2 ^ k < 2 ^ k := Nat.mod_lt _ (Nat.pow_pos (by decide))
    have e : ((2 ^ k : Nat) : Int) = (2 : Int) ^ k := by rw [Int.natCast_pow]; rfl
    omega
  rw [← pow12 k] at h2
  exact Int.lt_of_mul_lt_mul_right (Int.lt_of_le_of_lt h1 h2) (Int.le_of_lt (Int.pow_pos (by decide)))
theorem pow12_le (k : Nat) : (2 : Int) ^ (k % 12) ≤ 2048 := by
  have hr : k % 12 < 12 := Nat.mod_lt _ (by decide)
  generalize k % 12 = r at *
  rcases (show r = 0 ∨ r = 1 ∨ r = 2 ∨ r = 3 ∨ r = 4 ∨ r = 5 ∨ r = 6 ∨ r = 7 ∨ r = 8 ∨ r = 9 ∨ r = 10 ∨ r = 11 by omega) with rfl | rfl | rfl | rfl | rfl | rfl | rfl | rfl | rfl | rfl | rfl | rfl <;> decide
theorem div_pow_bd (x : Int) (k : Nat) (h0 : 0 ≤ x) (h1 : x < 256) : 0 ≤ x / 2 ^ k ∧ x / 2 ^ k < 256 := by
  have hp : (0 : Int) < 2 ^ k := Int.pow_pos (by decide)
  refine ⟨Int.ediv_nonneg h0 (Int.le_of_lt hp), ?_⟩
  have := Int.ediv_le_self (2 ^ k) h0
  omega
theorem of_inv (n : Nat) (h : Nat → Int) (hd : ∀ j, j < 44 → 0 ≤ h j ∧ h j < 4096) (hs : sumf 4096 h 44 = ((n % 2 ^ 255 : Nat) : Int)) : Inv1 (n % 2 ^ 255) 0 h := by
  refine inv1_init _ h (fun i hi => by have := hd i hi; omega) hs ?_
  rw [bnd0]
  have : n % 2 ^ 255 < 2 ^ 255 := Nat.mod_lt _ (Nat.pow_pos (by decide))
  have e : (2 : Nat) ^ 255 = 57896044618658097711785492504343953926634992332820282019728792003956564819968 := by decide +kernel
  omega
theorem dbl_le (b v : Int) (j m : Nat) (hb0 : 0 ≤ b) (hb : b ≤ 1) (hj : j < m) (hm : (2 : Int) ^ m ≤ 2048) (hv : v = b * 2 ^ j) : 0 ≤ v ∧ v ≤ 1024 := by
  have hp : (0 : Int) < 2 ^ j := Int.pow_pos (by decide)
  have h2 : (2 : Int) ^ (j + 1) ≤ 2 ^ m := by
    obtain ⟨d, rfl⟩ : ∃ d, m = j + 1 + d := ⟨m - (j + 1), by omega⟩
    rw [Int.pow_add 2 (j + 1) d]
    have hd : (1 : Int) ≤ 2 ^ d := by have : (0 : Int) < 2 ^ d := Int.pow_pos (by decide); omega
    have h3 : (2 : Int) ^ (j + 1) * 1 ≤ 2 ^ (j + 1) * 2 ^ d := Int.mul_le_mul_of_nonneg_left hd (Int.le_of_lt (Int.pow_pos (by decide)))
    omega
  rw [Int.pow_succ] at h2
  rcases (show b = 0 ∨ b = 1 by omega) with rfl | rfl
  · rw [hv]; simp
  · rw [hv]; omega
theorem ofbit (n k : Nat) (x : Int) (hx : x = dg 256 n (k / 8)) : x / 2 ^ (k % 8) % 2 = ((n / 2 ^ k % 2 : Nat) : Int) := by
  rw [hx, dg, ← bit8 n k]
  norm_cast

set_option maxRecDepth 100000 in
set_option maxHeartbeats 2000000 in
theorem rof_any (n : Nat) (w : World) :
    Calls Try.prog 33 #[.agg (k32 n)] w fun e w' => e = .returned (.agg (r22 (n % 2 ^ 255 % PP))) ∧ Below w.heap.size w w' := by
  have HI := Lib.hid (of_inv n)
  obtain ⟨m, hm⟩ : ∃ m, m = n % 2 ^ 255 := ⟨_, rfl⟩
  obtain ⟨r, hr⟩ : ∃ r, r = m % PP := ⟨_, rfl⟩
  have hle := fun h hi w => least_any m h hi w
  rw [← hm] at HI ⊢
  rw [← hr] at hle ⊢
  have Hle := Lib.hid hle; clear hle
  have Hm := Lib.hid hm; clear hm
  clear hr
  go_enter Try.func33, Try.ntmps33
  go_wp2_with fail
  go_loopw [4] (fun i wr => ∃ (k : Nat) (h : Nat → Int), k ≤ 255 ∧ i = .int .i64 k ∧ (∀ j, j < 44 → 0 ≤ h j ∧ h j < 4096) ∧ sumf 4096 h 44 = ((n % 2 ^ k : Nat) : Int) ∧ Has wr w.heap.size (k32 n) 24 ∧ HasN wr (w.heap.size + 1) 22 40 ∧ Has wr (w.heap.size + 1 + 1) (row .i64 44 h) 101 ∧ Below w.heap.size w wr) (fun i _ => 255 - (intOf i).toNat)
  case atStart => exact ⟨0, fun _ => 0, by omega, rfl, fun j hj => by simp, by rw [sumf_zero _ _ _ (fun _ _ => rfl)]; simp [Nat.mod_one], ((Has.new _ _ _).alloc _).alloc _, (HasN.new1 _ _ _ _ 22 rfl).alloc _, Has.new2 _ _ _ _ _, below_3 _ _ _ _⟩
  case round =>
    obtain ⟨k, h, hk, rfl, hd, hs, m0, m1, m2, hB⟩ := hrel
    have M0 := Lib.hid m0; clear m0
    have M1 := Lib.hid m1; clear m1
    have M2 := Lib.hid m2; clear m2
    have Hd := Lib.hid hd; clear hd
    have Hs := Lib.hid hs; clear hs
    by_cases hlt : k < 255
    · have h1 := M0.out.cell (k / 8) (by omega)
      have x0 := (dg_bd 256 n (k / 8) (by decide)).1
      have x1 := (dg_bd 256 n (k / 8) (by decide)).2
      obtain ⟨x, hx⟩ : ∃ x, x = dg 256 n (k / 8) := ⟨_, rfl⟩
      rw [← hx] at h1 x0 x1
      have hbit := ofbit n k x hx
      have k0 : (0 : Int) ≤ (k : Int) % 8 := by omega
      have k1 : (k : Int) % 8 < 8 := by omega
      have k2 : (0 : Int) ≤ (k : Int) / 8 := by omega
      have k3 : (k : Int) / 8 < 32 := by omega
      obtain ⟨s0, s1⟩ := div_pow_bd x (k % 8) x0 x1
      have Hx := Lib.hid hx; clear hx
      have Hbit := Lib.hid hbit; clear hbit
      go_wp2_with fail
      obtain ⟨b, hb⟩ : ∃ b, b = x / 2 ^ (k % 8) % 2 := ⟨_, rfl⟩
      rw [← hb]
      have b0 : 0 ≤ b := by omega
      have b1 : b ≤ 1 := by omega
      have hbn : b = ((n / 2 ^ k % 2 : Nat) : Int) := hb.trans Hbit.out
      have hp12 := pow12_le k
      have Hb := Lib.hid hb; clear hb
      have Hbn := Lib.hid hbn; clear hbn
      have Hp12 := Lib.hid hp12; clear hp12
      clear h1 Hbit s0 s1
      obtain ⟨wo, rfl⟩ : ∃ wo : World, wo = wr := ⟨_, rfl⟩
      go_loop [5, 6] (fun t i => ∃ (j : Nat) (v : Int), j ≤ k % 12 ∧ i = .int .i64 j ∧ t = .int .i64 v ∧ v = b * 2 ^ j) (fun _ i => k % 12 - (intOf i).toNat)
      case atStart => exact ⟨0, b, by omega, rfl, rfl, by simp⟩
      case round =>
        obtain ⟨j, v, hj, rfl, rfl, hv⟩ := hrel
        by_cases hjl : j < k % 12
        · have hvb := dbl_le b v j (k % 12) b0 b1 hjl Hp12.out hv
          obtain ⟨v0, v1⟩ := hvb
          have hj2 : (j : Int) < (k : Int) % 12 := by omega
          have Hv := Lib.hid hv; clear hv
          go_wp2_with fail
          go_round
          case measure => simp [intOf]; omega
          case rel => exact ⟨j + 1, 2 * v, by omega, by go_num, rfl, by rw [Hv.out, Int.pow_succ, Int.mul_comm 2, Int.mul_assoc]⟩
        · obtain rfl : j = k % 12 := by omega
          have hj2 : (k : Int) % 12 ≤ (((k % 12 : Nat) : Int)) := by omega
          have h2 := M2.out.cell (k / 12) (by omega)
          have hfz := M2.out.frozen (k / 12)
          have hy := room12 h n k (by omega) Hd.out Hs.out
          have hy0 := (Hd.out (k / 12) (by omega)).1
          obtain ⟨y, hyy⟩ : ∃ y, y = h (k / 12) := ⟨_, rfl⟩
          rw [← hyy] at h2 hy hy0
          have hvle : v ≤ 2 ^ (k % 12) := by
            have hpp : (0 : Int) < 2 ^ (k % 12) := Int.pow_pos (by decide)
            rcases (show b = 0 ∨ b = 1 by omega) with e | e
            · rw [hv, e]; omega
            · rw [hv, e]; omega
          have hv0 : 0 ≤ v := by
            have hpp : (0 : Int) < 2 ^ (k % 12) := Int.pow_pos (by decide)
            rcases (show b = 0 ∨ b = 1 by omega) with e | e
            · rw [hv, e]; omega
            · rw [hv, e]; omega
          have hyv : y + v < 4096 := by have := Hp12.out; omega
          clear hy hvle
          have k4 : (0 : Int) ≤ (k : Int) / 12 := by omega
          have k5 : (k : Int) / 12 < 44 := by omega
          have Hv := Lib.hid hv; clear hv
          have Hyy := Lib.hid hyy; clear hyy
          go_wp2_with fail
          go_roundw
          case measure => simp [intOf]; omega
          case rel =>
            refine ⟨k + 1, upd h (k / 12) (y + v), by omega, by go_num, ?_, ?_, M0.out.other _ _ (by simp <;> omega), M1.out.other _ _ (by simp <;> omega), M2.out.set _ _, hB.setCell (by simp <;> omega) _⟩
            · intro j hj
              by_cases e : j = k / 12
              · subst e; rw [upd_same]; omega
              · rw [upd_ne _ _ _ _ e]; exact Hd.out j hj
            · rw [sumf_upd _ _ _ _ _ (by omega), Hs.out, mod_succ_pow, ← Hyy.out, Hv.out, Hbn.out]
              have e := pow12 k
              have e2 : ((n % 2 ^ k + n / 2 ^ k % 2 * 2 ^ k : Nat) : Int) = ((n % 2 ^ k : Nat) : Int) + ((n / 2 ^ k % 2 : Nat) : Int) * 2 ^ k := by
                rw [Int.natCast_add, Int.natCast_mul, Int.natCast_pow]; rfl
              rw [e2, ← e]
              generalize ((n / 2 ^ k % 2 : Nat) : Int) = B
              generalize (2 : Int) ^ (k % 12) = U
              generalize (4096 : Int) ^ (k / 12) = V
              grind
    · obtain rfl : k = 255 := by omega
      have HC := Lib.hid (HI.out h Hd.out (by rw [Hs.out, ← Hm.out]))
      go_wp2_with (first | (refine wpList_load_row rfl 101 _ rfl (w.heap.size + 1 + 1) rfl 101 (row .i64 44 h) (0, 0) _ M2.out Try.underlying101 rfl (by rw [row_size]; kernel_rfl) ?_))
      refine (Hle.out h HC.out _).mono ?_
      rintro e w1 ⟨rfl, hb1⟩
      obtain ⟨Z, hZ, mz⟩ := M1.out.below hb1 M1.out.lt
      have HBB := Lib.hid (below_setRow (hB.trans (hb1.mono hB.size)) (w.heap.size + 1) (r22 r) (by omega))
      clear hb1
      have Mz := Lib.hid mz; clear mz
      have HZ := Lib.hid hZ; clear hZ
      go_wp2_with (refine wpList_store_row rfl 40 _ _ rfl (w.heap.size + 1) _ rfl rfl 40 Z Mz.out (by rw [r22_size]; kernel_rfl) (HZ.out.trans (r22_size _).symm) (row_one _ _ _) ?_)
      exact bodyPost_ret (v := .agg (r22 r)) (results_cell_row (t := 40) (by rfl) _ _ (w.heap.size + 1) _ _ _ rfl (Mz.out.setRow _) Try.underlying40 rfl (by rw [r22_size]; kernel_rfl)) rfl ⟨rfl, HBB.out⟩
end Go.Proofs.Ytjiagjonlcadiaa
end
section
namespace Go.Proofs.Ytjiagjonlcadiaa
open Go.RowKit Go.Lib

theorem pow8 (k : Nat) : (2 : Int) ^ (k % 8) * 256 ^ (k / 8) = 2 ^ k := by
  rw [show (256 : Int) = 2 ^ 8 from rfl, ← Int.pow_mul, ← Int.pow_add, Nat.mod_add_div]
theorem pow8_le (k : Nat) : (2 : Int) ^ (k % 8) ≤ 128 ∧ (0 : Int) < 2 ^ (k % 8) := by
  refine ⟨?_, Int.pow_pos (by decide)⟩
  have hr : k % 8 < 8 := Nat.mod_lt _ (by decide)
  generalize k % 8 = r at *
  rcases (show r = 0 ∨ r = 1 ∨ r = 2 ∨ r = 3 ∨ r = 4 ∨ r = 5 ∨ r = 6 ∨ r = 7 by omega) with rfl | rfl | rfl | rfl | rfl | rfl | rfl | rfl <;> decide
theorem room8 (h : Nat → Int) (n k : Nat) (hk : k < 256) (hd : ∀ j, j < 32 → 0 ≤ h j ∧ h j < 256) (hs : sumf 256 h 32 = ((n % 2 ^ k : Nat) : Int)) : h (k / 8) < 2 ^ (k % 8) := by
  have h1 := fig_le 256 (by decide) h 32 (k / 8) (by omega) (fun j hj => (hd j hj).1)
  rw [hs] at h1
  have h2 : ((n % 2 ^ k : Nat) : Int) < 2 ^ k := by
    have : n % 2 ^ k < 2 ^ k := Nat.mod_lt _ (Nat.pow_pos (by decide))
    have e : ((2 ^ k : Nat) : Int) = (2 : Int) ^ k := by rw [Int.natCast_pow]; rfl
    omega
  rw [← pow8 k] at h2
  exact Int.lt_of_mul_lt_mul_right (Int.lt_of_le_of_lt h1 h2) (Int.le_of_lt (Int.pow_pos (by decide)))
theorem div_pow_bd12 (x : Int) (k : Nat) (h0 : 0 ≤ x) (h1 : x ≤ 4095) : 0 ≤ x / 2 ^ k ∧ x / 2 ^ k ≤ 4095 := by
  have hp : (0 : Int) < 2 ^ k := Int.pow_pos (by decide)
  refine ⟨Int.ediv_nonneg h0 (Int.le_of_lt hp), ?_⟩
  have := Int.ediv_le_self (2 ^ k) h0
  omega
theorem bitr (n k : Nat) (x : Int) (hx : x = dg 4096 n (k / 12)) : x / 2 ^ (k % 12) % 2 = ((n / 2 ^ k % 2 : Nat) : Int) := by
  rw [hx, dg, ← bit12 n k]
  norm_cast
theorem key_end (n : Nat) (hn : n < 2 ^ 256) (h : Nat → Int) (hd : ∀ j, j < 32 → 0 ≤ h j ∧ h j < 256) (hs : sumf 256 h 32 = ((n % 2 ^ 256 : Nat) : Int)) : row .u8 32 h = k32 n := by
  rw [Nat.mod_eq_of_lt hn] at hs
  exact row_ext _ _ _ _ (sumf_uniq 256 h n 32 hd hs)

set_option maxRecDepth 100000 in
set_option maxHeartbeats 2000000 in
theorem rkey_any (n : Nat) (hn : n < 2 ^ 256) (w : World) :
    Calls Try.prog 74 #[.agg (r22 n)] w fun e w' => e = .returned (.agg (k32 n)) ∧ Below w.heap.size w w' := by
  have HE := Lib.hid (key_end n hn); clear hn
  go_enter Try.func74, Try.ntmps74
  go_wp2_with fail
  go_loopw [4] (fun i wr => ∃ (k : Nat) (h : Nat → Int), k ≤ 256 ∧ i = .int .i64 k ∧ (∀ j, j < 32 → 0 ≤ h j ∧ h j < 256) ∧ sumf 256 h 32 = ((n % 2 ^ k : Nat) : Int) ∧ Has wr w.heap.size (r22 n) 40 ∧ HasN wr (w.heap.size + 1) 32 24 ∧ Has wr (w.heap.size + 1 + 1) (row .u8 32 h) 24 ∧ Below w.heap.size w wr) (fun i _ => 256 - (intOf i).toNat)
  case atStart => exact ⟨0, fun _ => 0, by omega, rfl, fun j hj => by simp, by rw [sumf_zero _ _ _ (fun _ _ => rfl)]; simp [Nat.mod_one], ((Has.new _ _ _).alloc _).alloc _, (HasN.new1 _ _ _ _ 32 rfl).alloc _, Has.new2 _ _ _ _ _, below_3 _ _ _ _⟩
  case round =>
    obtain ⟨k, h, hk, rfl, hd, hs, m0, m1, m2, hB⟩ := hrel
    have M0 := Lib.hid m0; clear m0
    have M1 := Lib.hid m1; clear m1
    have M2 := Lib.hid m2; clear m2
    have Hd := Lib.hid hd; clear hd
    have Hs := Lib.hid hs; clear hs
    by_cases hlt : k < 256
    · have h1 := M0.out.cell (k / 12) (by omega)
      have x0 := dg_nn n (k / 12)
      have x1 := dg_le n (k / 12)
      obtain ⟨x, hx⟩ : ∃ x, x = dg 4096 n (k / 12) := ⟨_, rfl⟩
      rw [← hx] at h1 x0 x1
      have hbit := bitr n k x hx
      have k0 : (0 : Int) ≤ (k : Int) % 12 := by omega
      have k1 : (k : Int) % 12 < 12 := by omega
      have k2 : (0 : Int) ≤ (k : Int) / 12 := by omega
      have k3 : (k : Int) / 12 < 22 := by omega
      have k4 : (0 : Int) ≤ (k : Int) % 8 := by omega
      have k5 : (k : Int) % 8 < 8 := by omega
      have k6 : (0 : Int) ≤ (k : Int) / 8 := by omega
      have k7 : (k : Int) / 8 < 32 := by omega
      obtain ⟨s0, s1⟩ := div_pow_bd12 x (k % 12) x0 x1
      have h2 := M2.out.cell (k / 8) (by omega)
      have hfz := M2.out.frozen (k / 8)
      have hy := room8 h n k hlt Hd.out Hs.out
      have hy0 := (Hd.out (k / 8) (by omega)).1
      obtain ⟨y, hyy⟩ : ∃ y, y = h (k / 8) := ⟨_, rfl⟩
      rw [← hyy] at h2 hy hy0
      have hp8 := (pow8_le k).1
      have hp80 := (pow8_le k).2
      have Hx := Lib.hid hx; clear hx
      have Hbit := Lib.hid hbit; clear hbit
      have Hyy := Lib.hid hyy; clear hyy
      by_cases hb1 : x / 2 ^ (k % 12) % 2 = 1
      · have ht : (x / 2 ^ (k % 12) % 2 == 1) = true := by simp [hb1]
        have Hb1 := Lib.hid hb1; clear hb1
        go_wp2_with fail
        go_roundw
        case measure => simp [intOf]; omega
        case rel =>
          refine ⟨k + 1, upd h (k / 8) (y + 2 ^ (k % 8)), by omega, by go_num, ?_, ?_, M0.out.other _ _ (by simp <;> omega), M1.out.other _ _ (by simp <;> omega), M2.out.set _ _, hB.setCell (by simp <;> omega) _⟩
          · intro j hj
            by_cases e : j = k / 8
            · subst e; rw [upd_same]; omega
            · rw [upd_ne _ _ _ _ e]; exact Hd.out j hj
          · have hb2 : ((n / 2 ^ k % 2 : Nat) : Int) = 1 := Hbit.out.symm.trans Hb1.out
            rw [sumf_upd _ _ _ _ _ (by omega), Hs.out, mod_succ_pow, ← Hyy.out]
            have e := pow8 k
            have e2 : ((n % 2 ^ k + n / 2 ^ k % 2 * 2 ^ k : Nat) : Int) = ((n % 2 ^ k : Nat) : Int) + ((n / 2 ^ k % 2 : Nat) : Int) * 2 ^ k := by
              rw [Int.natCast_add, Int.natCast_mul, Int.natCast_pow]; rfl
            rw [e2, hb2, ← e]
            generalize (2 : Int) ^ (k % 8) = U
            generalize (256 : Int) ^ (k / 8) = V
            grind
      · have ht : (x / 2 ^ (k % 12) % 2 == 1) = false := by simp [hb1]
        have hb0 : x / 2 ^ (k % 12) % 2 = 0 := by omega
        clear hb1
        have Hb0 := Lib.hid hb0; clear hb0
        go_wp2_with fail
        go_roundw
        case measure => simp [intOf]; omega
        case rel =>
          refine ⟨k + 1, h, by omega, by go_num, Hd.out, ?_, M0.out, M1.out, M2.out, hB⟩
          have hb2 : n / 2 ^ k % 2 = 0 := by have := Hbit.out.symm.trans Hb0.out; omega
          rw [Hs.out, mod_succ_pow, hb2, Nat.zero_mul, Nat.add_zero]
    · obtain rfl : k = 256 := by omega
      have m2 := M2.out
      rw [HE.out h Hd.out Hs.out] at m2
      obtain ⟨Z, hZ, mz⟩ := M1.out
      have M2 := Lib.hid m2; clear m2
      have Mz := Lib.hid mz; clear mz
      have HZ := Lib.hid hZ; clear hZ
      go_wp2_with (first | (refine wpList_load_row rfl 24 _ rfl (w.heap.size + 1 + 1) rfl 24 (k32 n) (0, 0) _ M2.out Try.underlying24 rfl (by rw [k32_size]; kernel_rfl) ?_) | (refine wpList_store_row rfl 24 _ _ rfl (w.heap.size + 1) _ rfl rfl 24 Z Mz.out (by rw [k32_size]; kernel_rfl) (HZ.out.trans (k32_size _).symm) (row_one _ _ _) ?_))
      exact bodyPost_ret (v := .agg (k32 n)) (results_cell_row (t := 24) (by rfl) _ _ (w.heap.size + 1) _ _ _ rfl (Mz.out.setRow _) Try.underlying24 rfl (by rw [k32_size]; kernel_rfl)) rfl ⟨rfl, below_setRow hB _ _ (by omega)⟩

theorem div_succ (n k : Nat) : n / 4096 ^ (k + 1) = n / 4096 ^ k / 4096 := by rw [Nat.pow_succ, Nat.div_div_eq_div_mul]
theorem int_inv (n : Nat) (hn : n < 9223372036854775808) (h : Nat → Int) (hl : ∀ j, j < 6 → h j = dg 4096 n j) (hh : ∀ j, 6 ≤ j → h j = 0) : Inv1 n 0 h := by
  have hz : ∀ j, 6 ≤ j → dg 4096 n j = 0 := by
    intro j hj
    unfold dg
    have : n < 4096 ^ j := Nat.lt_of_lt_of_le (Nat.lt_of_lt_of_le hn (by decide)) (Nat.pow_le_pow_right (by decide) hj)
    rw [Nat.div_eq_of_lt this]; rfl
  have he : ∀ j, h j = dg 4096 n j := fun j => by
    by_cases hj : j < 6
    · exact hl j hj
    · rw [hh j (by omega), hz j (by omega)]
  refine inv1_init _ h (fun i _ => ?_) ?_ ?_
  · rw [he i]; have a := dg_nn n i; have b := dg_le n i; omega
  · rw [sumf_congr 4096 h (dg 4096 n) 44 (fun i _ => he i)]
    have := sumf_dg 4096 n 44
    rw [Nat.mod_eq_of_lt (Nat.lt_of_lt_of_le hn (by decide +kernel))] at this
    exact this
  · rw [bnd0]; omega

set_option maxRecDepth 100000 in
set_option maxHeartbeats 1000000 in
theorem rint_nn (n : Nat) (hn : n < 9223372036854775808) (w : World) :
    Calls Try.prog 35 #[.int .i64 n] w fun e w' => e = .returned (.agg (r22 (n % PP))) ∧ Below w.heap.size w w' := by
  have HI := Lib.hid (int_inv n hn)
  have hq0 : n / 4096 ^ 0 < 9223372036854775808 := by simpa using hn
  have hend : n / 4096 ^ 6 = 0 := Nat.div_eq_of_lt (Nat.lt_of_lt_of_le hn (by decide))
  obtain ⟨r, hr⟩ : ∃ r, r = n % PP := ⟨_, rfl⟩
  have hle := fun h hi w => least_any n h hi w
  rw [← hr] at hle ⊢
  have hdl : ∀ k, n / 4096 ^ k ≤ n := fun k => Nat.div_le_self _ _
  have Hle := Lib.hid hle; clear hle
  have Hend := Lib.hid hend; clear hend
  have Hq0 := Lib.hid hq0; clear hq0
  have Hdl := Lib.hid hdl; clear hdl
  clear hr
  go_enter Try.func35, Try.ntmps35
  go_wp2_with fail
  go_loopw [0, 4] (fun q i wr => ∃ (k : Nat) (h : Nat → Int), k ≤ 6 ∧ i = .int .i64 k ∧ q = .int .i64 ((n / 4096 ^ k : Nat) : Int) ∧ (∀ j, j < k → h j = dg 4096 n j) ∧ (∀ j, k ≤ j → h j = 0) ∧ HasN wr w.heap.size 22 40 ∧ Has wr (w.heap.size + 1) (row .i64 44 h) 101 ∧ Below w.heap.size w wr) (fun _ i _ => 6 - (intOf i).toNat)
  case atStart => exact ⟨0, fun _ => 0, by omega, rfl, by simp, fun j hj => by omega, fun _ _ => rfl, (HasN.new _ _ _ 22 rfl).alloc _, Has.new1 _ _ _ _, below_2 _ _ _⟩
  case round =>
    obtain ⟨k, h, hk, rfl, rfl, hl, hh, m0, m1, hB⟩ := hrel
    have M0 := Lib.hid m0; clear m0
    have M1 := Lib.hid m1; clear m1
    have Hl := Lib.hid hl; clear hl
    have Hh := Lib.hid hh; clear hh
    by_cases hlt : k < 6
    · have h2 := M1.out.cell k (by omega)
      have hfz := M1.out.frozen k
      have hq1 := Hdl.out k
      have hfig : ((n / 4096 ^ k : Nat) : Int) % 4096 = dg 4096 n k := by unfold dg; omega
      have hnx : ((n / 4096 ^ k : Nat) : Int) / 4096 = ((n / 4096 ^ (k + 1) : Nat) : Int) := by rw [div_succ]; omega
      obtain ⟨q, hq⟩ : ∃ q, q = n / 4096 ^ k := ⟨_, rfl⟩
      rw [← hq] at hq1 hfig hnx
      rw [← hq]
      have Hq := Lib.hid hq; clear hq
      have Hfig := Lib.hid hfig; clear hfig
      have Hnx := Lib.hid hnx; clear hnx
      go_wp2_with fail
      go_roundw
      case measure => simp [intOf]; omega
      case rel =>
        refine ⟨k + 1, upd h k ((q : Int) % 4096), by omega, by go_num, by rw [← Hnx.out], ?_, ?_, M0.out.other _ _ (by simp <;> omega), M1.out.set _ _, hB.setCell (by simp <;> omega) _⟩
        · intro j hj
          by_cases e : j = k
          · subst e; rw [upd_same, Hfig.out]
          · rw [upd_ne _ _ _ _ e]; exact Hl.out j (by omega)
        · intro j hj; rw [upd_ne _ _ _ _ (by omega)]; exact Hh.out j (by omega)
    · obtain rfl : k = 6 := by omega
      have HC := Lib.hid (HI.out h Hl.out Hh.out)
      go_wp2_with (first | (refine wpList_load_row rfl 101 _ rfl (w.heap.size + 1) rfl 101 (row .i64 44 h) (0, 0) _ M1.out Try.underlying101 rfl (by rw [row_size]; kernel_rfl) ?_))
      refine (Hle.out h HC.out _).mono ?_
      rintro e w1 ⟨rfl, hb1⟩
      obtain ⟨Z, hZ, mz⟩ := M0.out.below hb1 M0.out.lt
      have HBB := Lib.hid (below_setRow (hB.trans (hb1.mono hB.size)) w.heap.size (r22 r) (by omega))
      clear hb1
      have Mz := Lib.hid mz; clear mz
      have HZ := Lib.hid hZ; clear hZ
      go_wp2_with (refine wpList_store_row rfl 40 _ _ rfl (w.heap.size) _ rfl rfl 40 Z Mz.out (by rw [r22_size]; kernel_rfl) (HZ.out.trans (r22_size _).symm) (row_one _ _ _) ?_)
      exact bodyPost_ret (v := .agg (r22 r)) (results_cell_row (t := 40) (by rfl) _ _ (w.heap.size) _ _ _ rfl (Mz.out.setRow _) Try.underlying40 rfl (by rw [r22_size]; kernel_rfl)) rfl ⟨rfl, HBB.out⟩
end Go.Proofs.Ytjiagjonlcadiaa
end
section
namespace Go.Proofs.Ytjiagjonlcadiaa
open Go.RowKit Go.Lib

theorem zero22 : (#[.int .i64 0, .int .i64 0, .int .i64 0, .int .i64 0, .int .i64 0, .int .i64 0, .int .i64 0, .int .i64 0, .int .i64 0, .int .i64 0, .int .i64 0, .int .i64 0, .int .i64 0, .int .i64 0, .int .i64 0, .int .i64 0, .int .i64 0, .int .i64 0, .int .i64 0, .int .i64 0, .int .i64 0, .int .i64 0] : Array Value) = r22 0 := by
  have : r22 0 = row .i64 22 (fun _ => 0) := row_ext _ _ _ _ fun i _ => by unfold dg; simp
  rw [this]; rfl
theorem PP_val : PP = 57896044618658097711785492504343953926634992332820282019728792003956564819949 := rfl
theorem int_num (n : Int) (m : Nat) (h : n = -(m : Int) - 1) : ((0 + (PP - m % PP)) % PP + (PP - 1 % PP)) % PP = (n % (PP : Int)).toNat := by
  subst h
  have hp := PP_val
  have hpos := PP_pos
  have hlt := Nat.mod_lt m hpos
  have hdm := Nat.div_add_mod m PP
  generalize m % PP = r at *
  generalize m / PP = q at *
  subst hdm
  have e1 : 1 % PP = 1 := by decide +kernel
  rw [e1]
  have e2 : (-((PP * q + r : Nat) : Int) - 1) = (-(r : Int) - 1) + (PP : Int) * (-(q : Int)) := by
    rw [Int.natCast_add, Int.natCast_mul, Int.mul_neg]; omega
  rw [e2, Int.add_mul_emod_self_left]
  rw [hp] at *
  omega



theorem pow_next (a e k x b : Nat) (hx : x = a ^ (e / 2 ^ (k + 1)) % PP) (hb : b = e / 2 ^ k % 2) : (if b = 1 then x * x % PP * a % PP else x * x % PP) = a ^ (e / 2 ^ k) % PP := by
  have h1 : e / 2 ^ k = 2 * (e / 2 ^ (k + 1)) + b := by
    rw [hb, Nat.pow_succ, ← Nat.div_div_eq_div_mul]; omega
  have hb2 : b < 2 := by rw [hb]; exact Nat.mod_lt _ (by decide)
  rw [h1, hx]
  generalize e / 2 ^ (k + 1) = E
  clear h1 hx hb
  have h2 : a ^ E % PP * (a ^ E % PP) % PP = a ^ (2 * E) % PP := by rw [← Nat.mul_mod, Nat.two_mul, Nat.pow_add]
  rw [h2]
  rcases (show b = 0 ∨ b = 1 by omega) with h0 | h0
  · rw [if_neg (by omega), h0]; rfl
  · rw [if_pos h0, h0, Nat.mod_mul_mod]; rfl

set_option maxRecDepth 100000 in
set_option maxHeartbeats 2000000 in
theorem rpower_any (a e : Nat) (ha : a < PP) (he : e < 2 ^ 255) (w : World) :
    Calls Try.prog 85 #[.agg (r22 a), .agg (r22 e)] w fun en w' => en = .returned (.agg (r22 (a ^ e % PP))) ∧ Below w.heap.size w w' := by
  have he0 : a ^ (e / 2 ^ 0) % PP = a ^ e % PP := by rw [Nat.pow_zero, Nat.div_one]
  have he1 : a ^ (e / 2 ^ 255) % PP = 1 % PP := by rw [Nat.div_eq_of_lt he, Nat.pow_zero]
  have hnx := pow_next a e
  have ht := fun x y hx hy w => rtimes_any x y hx hy w
  have hc1 := fun w => rint_nn 1 (by omega) w
  have He0 := Lib.hid he0; clear he0
  have He1 := Lib.hid he1; clear he1
  have Hnx := Lib.hid hnx; clear hnx
  have Ht := Lib.hid ht; clear ht
  have Hc1 := Lib.hid hc1; clear hc1
  have Ha := Lib.hid ha; clear ha
  have He := Lib.hid he; clear he
  go_enter Try.func85, Try.ntmps85
  go_wp2_with fail
  refine (Hc1.out _).mono ?_
  rintro en w1 ⟨rfl, b1⟩
  have m0 := (((Has.new w (r22 a) 40).alloc (.cells (r22 e) 40)).alloc (.cells (row .i64 22 fun _ => 0) 40)).call b1
  have m1 := ((Has.new1 w (.cells (r22 a) 40) (r22 e) 40).alloc (.cells (row .i64 22 fun _ => 0) 40)).call b1
  have m2 := (HasN.new2 w (.cells (r22 a) 40) (.cells (r22 e) 40) (row .i64 22 fun _ => 0) 40 22 (row_size _ _ _)).call b1
  have hB := held_next (below_3 w (.cells (r22 a) 40) (.cells (r22 e) 40) (.cells (row .i64 22 fun _ => 0) 40)) b1
  clear b1
  have h1r : (1 % PP) < PP := Nat.mod_lt _ PP_pos
  obtain ⟨o, ho⟩ : ∃ o, o = 1 % PP := ⟨_, rfl⟩
  rw [← ho] at h1r ⊢
  have M0 := Lib.hid m0; clear m0
  have M1 := Lib.hid m1; clear m1
  have M2 := Lib.hid m2; clear m2
  have HB := Lib.hid hB; clear hB
  have H1r := Lib.hid h1r; clear h1r
  have Ho := Lib.hid ho; clear ho
  obtain ⟨Z, hZ, mz⟩ := HasN.new w1 (row .i64 22 fun _ => 0) 40 22 (row_size _ _ _)
  have q0 := (M0.out.alloc (.cells (row .i64 22 fun _ => 0) 40)).setRow_other w1.heap.size (r22 o) (by have := M0.out.lt; omega)
  have q1 := (M1.out.alloc (.cells (row .i64 22 fun _ => 0) 40)).setRow_other w1.heap.size (r22 o) (by have := M1.out.lt; omega)
  have q2 := (M2.out.alloc (.cells (row .i64 22 fun _ => 0) 40)).setRow_other w1.heap.size (r22 o) (by have := M2.out.lt; omega)
  have q3 := mz.setRow (r22 o)
  have hB2 := below_setRow (HB.out.alloc HB.out.size (.cells (row .i64 22 fun _ => 0) 40)) w1.heap.size (r22 o) HB.out.size
  have hlt3 := M2.out.lt
  have Mz := Lib.hid mz; clear mz
  have HZ := Lib.hid hZ; clear hZ
  have Q0 := Lib.hid q0; clear q0
  have Q1 := Lib.hid q1; clear q1
  have Q2 := Lib.hid q2; clear q2
  have Q3 := Lib.hid q3; clear q3
  have HB2 := Lib.hid hB2; clear hB2
  clear M0 M1 M2 HB
  go_wp2_with (refine wpList_store_row rfl 40 _ _ rfl (w1.heap.size) _ rfl rfl 40 Z Mz.out (by rw [r22_size]; kernel_rfl) (HZ.out.trans (r22_size _).symm) (row_one _ _ _) ?_)
  clear Mz HZ
  go_loopw [6] (fun i wr => ∃ (k x : Nat), k ≤ 255 ∧ i = .int .i64 ((k : Int) - 1) ∧ x < PP ∧ x = a ^ (e / 2 ^ k) % PP ∧ Has wr w.heap.size (r22 a) 40 ∧ Has wr (w.heap.size + 1) (r22 e) 40 ∧ HasN wr (w.heap.size + 1 + 1) 22 40 ∧ Has wr w1.heap.size (r22 x) 40 ∧ Below w.heap.size w wr) (fun i _ => (intOf i + 1).toNat)
  case atStart => exact ⟨255, o, by omega, rfl, H1r.out, by rw [He1.out, Ho.out], Q0.out, Q1.out, Q2.out, Q3.out, HB2.out⟩
  case round =>
    clear Q0 Q1 Q2 Q3 HB2
    obtain ⟨k, x, hk, rfl, hxp, hx, m0, m1, m2, m3, hB⟩ := hrel
    have M0 := Lib.hid m0; clear m0
    have M1 := Lib.hid m1; clear m1
    have M2 := Lib.hid m2; clear m2
    have M3 := Lib.hid m3; clear m3
    have HB := Lib.hid hB; clear hB
    have Hxp := Lib.hid hxp; clear hxp
    have Hx := Lib.hid hx; clear hx
    by_cases hlt : 0 < k
    · obtain ⟨k, rfl⟩ : ∃ j, k = j + 1 := ⟨k - 1, by omega⟩
      rw [show (((k + 1 : Nat) : Int) - 1) = (k : Int) by omega]
      go_wp2_with (refine wpList_load_row rfl 40 _ rfl (w1.heap.size) rfl 40 (r22 x) (0, 0) _ M3.out Try.underlying40 rfl (by rw [r22_size]; kernel_rfl) ?_)
      have hy0 : x * x % PP < PP := Nat.mod_lt _ PP_pos
      obtain ⟨y, hy⟩ : ∃ y, y = x * x % PP := ⟨_, rfl⟩
      have hc := fun w => Ht.out x x Hxp.out Hxp.out w
      rw [← hy] at hc hy0
      have Hc := Lib.hid hc; clear hc
      have Hy := Lib.hid hy; clear hy
      have Hy0 := Lib.hid hy0; clear hy0
      refine (Hc.out _).mono ?_
      rintro en w2 ⟨rfl, b2⟩
      have m0 := M0.out.call b2
      have m1 := M1.out.call b2
      have m2 := M2.out.call b2
      obtain ⟨Z, hZ, mz⟩ := (M3.out.toN (r22_size _)).call b2
      have hB2 := held_next HB.out b2
      have q0 := m0.setRow_other w1.heap.size (r22 y) (by omega)
      have q1 := m1.setRow_other w1.heap.size (r22 y) (by omega)
      have q2 := m2.setRow_other w1.heap.size (r22 y) (by omega)
      have q3 := mz.setRow (r22 y)
      have hB3 := below_setRow hB2 w1.heap.size (r22 y) (by omega)
      clear m0 m1 m2 b2 hB2
      clear M0 M1 M2 M3 HB Hc
      have h1 := q1.cell (k / 12) (by omega)
      have x0 := dg_nn e (k / 12)
      have x1 := dg_le e (k / 12)
      obtain ⟨z, hz⟩ : ∃ z, z = dg 4096 e (k / 12) := ⟨_, rfl⟩
      rw [← hz] at h1 x0 x1
      have hbit := bitr e k z hz
      have k0 : (0 : Int) ≤ (k : Int) % 12 := by omega
      have k1 : (k : Int) % 12 < 12 := by omega
      have k2 : (0 : Int) ≤ (k : Int) / 12 := by omega
      have k3 : (k : Int) / 12 < 22 := by omega
      obtain ⟨s0, s1⟩ := div_pow_bd12 z (k % 12) x0 x1
      have Mz := Lib.hid mz; clear mz
      have HZ := Lib.hid hZ; clear hZ
      have Q0 := Lib.hid q0; clear q0
      have Q1 := Lib.hid q1; clear q1
      have Q2 := Lib.hid q2; clear q2
      have Q3 := Lib.hid q3; clear q3
      have HB3 := Lib.hid hB3; clear hB3
      have Hz := Lib.hid hz; clear hz
      have Hbit := Lib.hid hbit; clear hbit
      by_cases hb1 : z / 2 ^ (k % 12) % 2 = 1
      · have ht : (z / 2 ^ (k % 12) % 2 == 1) = true := by simp [hb1]
        have hbn : 1 = e / 2 ^ k % 2 := by have := Hbit.out; omega
        have hnx := Hnx.out k x 1 Hx.out hbn
        rw [if_pos rfl, ← Hy.out] at hnx
        have hv0 : y * a % PP < PP := Nat.mod_lt _ PP_pos
        obtain ⟨v, hv⟩ : ∃ v, v = y * a % PP := ⟨_, rfl⟩
        have hc := fun w => Ht.out y a Hy0.out Ha.out w
        rw [← hv] at hc hv0 hnx
        clear hv hbn
        have Hb1 := Lib.hid hb1; clear hb1
        have Hc := Lib.hid hc; clear hc
        have Hv0 := Lib.hid hv0; clear hv0
        have Hnx := Lib.hid hnx; clear hnx
        go_wp2_with (first | (refine wpList_store_row rfl 40 _ _ rfl (w1.heap.size) _ rfl rfl 40 Z Mz.out (by rw [r22_size]; kernel_rfl) (HZ.out.trans (r22_size _).symm) (row_one _ _ _) ?_) | (refine wpList_load_row rfl 40 _ rfl (w1.heap.size) rfl 40 (r22 y) (0, 0) _ Q3.out Try.underlying40 rfl (by rw [r22_size]; kernel_rfl) ?_) | (refine wpList_load_row rfl 40 _ rfl (w.heap.size) rfl 40 (r22 a) (0, 0) _ Q0.out Try.underlying40 rfl (by rw [r22_size]; kernel_rfl) ?_))
        refine (Hc.out _).mono ?_
        rintro en w3 ⟨rfl, b3⟩
        have m0 := Q0.out.call b3
        have m1 := Q1.out.call b3
        have m2 := Q2.out.call b3
        obtain ⟨Z', hZ', mz'⟩ := (Q3.out.toN (r22_size _)).call b3
        have hB4 := held_next HB3.out b3
        have p0 := m0.setRow_other w1.heap.size (r22 v) (by omega)
        have p1 := m1.setRow_other w1.heap.size (r22 v) (by omega)
        have p2 := m2.setRow_other w1.heap.size (r22 v) (by omega)
        have p3 := mz'.setRow (r22 v)
        have hB5 := below_setRow hB4 w1.heap.size (r22 v) (by omega)
        clear m0 m1 m2 b3 hB4
        have Mz' := Lib.hid mz'; clear mz'
        have HZ' := Lib.hid hZ'; clear hZ'
        have P0 := Lib.hid p0; clear p0
        have P1 := Lib.hid p1; clear p1
        have P2 := Lib.hid p2; clear p2
        have P3 := Lib.hid p3; clear p3
        have HB5 := Lib.hid hB5; clear hB5
        go_wp2_with (refine wpList_store_row rfl 40 _ _ rfl (w1.heap.size) _ rfl rfl 40 Z' Mz'.out (by rw [r22_size]; kernel_rfl) (HZ'.out.trans (r22_size _).symm) (row_one _ _ _) ?_)
        go_roundw
        case measure => simp [intOf]
        case rel => exact ⟨k, v, by omega, rfl, Hv0.out, Hnx.out, P0.out, P1.out, P2.out, P3.out, HB5.out⟩
      · have ht : (z / 2 ^ (k % 12) % 2 == 1) = false := by simp [hb1]
        have hbn : 0 = e / 2 ^ k % 2 := by have := Hbit.out; omega
        have hnx := Hnx.out k x 0 Hx.out hbn
        rw [if_neg (by decide), ← Hy.out] at hnx
        clear hb1 hbn
        have Hnx := Lib.hid hnx; clear hnx
        go_wp2_with (refine wpList_store_row rfl 40 _ _ rfl (w1.heap.size) _ rfl rfl 40 Z Mz.out (by rw [r22_size]; kernel_rfl) (HZ.out.trans (r22_size _).symm) (row_one _ _ _) ?_)
        go_roundw
        case measure => simp [intOf]
        case rel => exact ⟨k, y, by omega, rfl, Hy0.out, Hnx.out, Q0.out, Q1.out, Q2.out, Q3.out, HB3.out⟩
    · obtain rfl : k = 0 := by omega
      have hx2 : x = a ^ e % PP := Hx.out.trans He0.out
      obtain ⟨Z, hZ, mz⟩ := M2.out
      have Mz := Lib.hid mz; clear mz
      have HZ := Lib.hid hZ; clear hZ
      have Hx2 := Lib.hid hx2; clear hx2
      have HBB := Lib.hid (below_setRow HB.out (w.heap.size + 1 + 1) (r22 x) (by omega))
      go_wp2_with (first | (refine wpList_load_row rfl 40 _ rfl (w1.heap.size) rfl 40 (r22 x) (0, 0) _ M3.out Try.underlying40 rfl (by rw [r22_size]; kernel_rfl) ?_) | (refine wpList_store_row rfl 40 _ _ rfl (w.heap.size + 1 + 1) _ rfl rfl 40 Z Mz.out (by rw [r22_size]; kernel_rfl) (HZ.out.trans (r22_size _).symm) (row_one _ _ _) ?_))
      exact bodyPost_ret (v := .agg (r22 x)) (results_cell_row (t := 40) (by rfl) _ _ (w.heap.size + 1 + 1) _ _ _ rfl (Mz.out.setRow _) Try.underlying40 rfl (by rw [r22_size]; kernel_rfl)) rfl ⟨by rw [Hx2.out], HBB.out⟩

/-- a power modulo the prime, under a name: a closed one must not be reckoned by Nat's own power -/
def pwm (b e : Nat) : Nat := b ^ e % PP
theorem pwm_lt (b e : Nat) : pwm b e < PP := Nat.mod_lt _ PP_pos
theorem rpow_any (a e : Nat) (ha : a < PP) (he : e < 2 ^ 255) (w : World) :
    Calls Try.prog 85 #[.agg (r22 a), .agg (r22 e)] w fun en w' => en = .returned (.agg (r22 (pwm a e))) ∧ Below w.heap.size w w' := rpower_any a e ha he w
end Go.Proofs.Ytjiagjonlcadiaa
end
section
namespace Go.Proofs.Ytjiagjonlcadiaa
open Go.RowKit Go.Lib
section
variable {P : Program} (w : World)
def eqr (n : Nat) (f g : Nat → Int) : Bool := (List.range n).all fun i => f i == g i
theorem run_equalIn_row (d : Nat) (t e : TypeId) (n : Nat) (kd : IntKind) (ht : P.underlying t = some (.array n e)) (he : P.underlying e = some (.int kd)) (hsz : ∀ w, (sizeOf e).run P w = .ok 1 w) (f g : Nat → Int) :
    (Op.equalIn (d + 2) t (.agg (row kd n f)) (.agg (row kd n g))).run P w = .ok (eqr n f g) w := by
  unfold eqr
  rw [List.range_eq_range', Op.equalIn]
  simp only [Sem.run_bind, run_underlying ht, Result.andThen_ok, hsz, Std.Legacy.Range.forIn_eq_forIn_range', Std.Legacy.Range.size, Nat.sub_zero, Nat.add_sub_cancel, Nat.div_one]
  have hl : ∀ i ∈ List.range' 0 n 1, i < n := fun i hi => by simpa using (List.mem_range'_1.1 hi).2
  generalize List.range' 0 n 1 = l at hl ⊢
  induction l with
  | nil => simp
  | cons i l ih =>
    have hi : i < n := hl i (by simp)
    have px : ∀ h : Nat → Int, (part e (row kd n h) (i * 1)).run P w = .ok (.int kd (h i)) w := fun h => by
      have hg := row_get kd n h i hi
      simp [part, isAgg, run_underlying he, hg]
    simp only [List.forIn_cons, Sem.run_bind, px, run_equalIn_int w d e kd kd _ _ he, Result.andThen_ok, List.all_cons]
    cases hb : (f i == g i)
    · simp
    · simp only [Bool.not_true, Bool.false_eq_true, if_false, Sem.run_pure, Result.andThen_ok, Bool.true_and]
      exact ih fun j hj => hl j (by simp [hj])
theorem run_index_row (t e : TypeId) (n : Nat) (kd : IntKind) (ht : P.underlying t = some (.array n e)) (he : P.underlying e = some (.int kd)) (hsz : ∀ w, (sizeOf e).run P w = .ok 1 w) (f : Nat → Int) (k : Nat) (hk : k < n) :
    (Instr.index t (.agg (row kd n f)) (.int .i64 (k : Int))).run P w = .ok (.int kd (f k)) w := by
  have hg := row_get kd n f k hk
  simp [Instr.index, asIntOf, run_underlying ht, hk, hsz, part, isAgg, run_underlying he, hg]
end
theorem eqr_dg (B n x y : Nat) (hx : x < B ^ n) (hy : y < B ^ n) : eqr n (dg B x) (dg B y) = decide (x = y) := by
  unfold eqr
  rw [Bool.eq_iff_iff]
  simp only [List.all_eq_true, List.mem_range, beq_iff_eq, decide_eq_true_eq]
  constructor
  · intro h
    have e1 := sumf_dg B x n
    have e2 := sumf_dg B y n
    rw [Nat.mod_eq_of_lt hx] at e1
    rw [Nat.mod_eq_of_lt hy] at e2
    rw [sumf_congr (B : Int) _ _ n h] at e1
    omega
  · rintro rfl i _; rfl
/-- two results: a row in a cell's block, and a slot -/
theorem results_cell_tmp_row {P : Program} {fn : Func} {p t2 : Tmp} {ty : TypeId} (h : fn.results = #[.cell p ty, .tmp t2]) (tmps : Array Value) (w : World) (g : Nat) (t : TypeId) (cs : Array Value) (fr : Nat × Nat) (d : TypeDesc)
    (hp : tmps.getD p undef = .pointer (some ⟨g, 0, none⟩)) (hg : w.heap[g]? = some (.cells cs t fr))
    (hu : P.underlying ty = some d) (hd : (match d with | .struct _ | .array _ _ => true | _ => false) = true) (hi : (P.info? ty).map (·.size) = some cs.size) :
    (results fn tmps).run P w = .ok (.tuple #[.agg cs, tmps.getD t2 undef]) w := by
  have hp' : tmps[p]?.getD undef = .pointer (some ⟨g, 0, none⟩) := by simpa using hp
  simp [results, h, hp', asAddr, run_loadVar_row w g t ty cs fr d hg hu hd hi]
theorem sz_int (w : World) : (sizeOf 3).run Try.prog w = .ok 1 w := by kernel_rfl
theorem sz_u8 (w : World) : (sizeOf 5).run Try.prog w = .ok 1 w := by kernel_rfl
theorem sz_u64 (w : World) : (sizeOf 34).run Try.prog w = .ok 1 w := by kernel_rfl
end Go.Proofs.Ytjiagjonlcadiaa
end
section
namespace Go.Proofs.Ytjiagjonlcadiaa
open Go.RowKit Go.Lib

/-- the words of a number -/
def e4 (n : Nat) : Array Value := row .u64 4 (dg 18446744073709551616 n)
theorem e4_size (n : Nat) : (e4 n).size = 4 := row_size _ _ _
/-- an element that is r modulo the prime -/
def ElP (r : Nat) (w : World) (e : Ending) (w' : World) : Prop := ∃ m : Nat, m < 115792089237316195423570985008687907853269984665640564039457584007913129639936 ∧ m % PP = r ∧ e = .returned (.agg (e4 m)) ∧ Below w.heap.size w w'

theorem w_nn (n i : Nat) : 0 ≤ dg 18446744073709551616 n i := (dg_bd _ n i (by decide)).1
theorem w_lt (n i : Nat) : dg 18446744073709551616 n i < 18446744073709551616 := (dg_bd _ n i (by decide)).2
theorem p64_4 : (18446744073709551616 : Int) ^ 4 = 115792089237316195423570985008687907853269984665640564039457584007913129639936 := by decide +kernel
theorem n64_4 : (18446744073709551616 : Nat) ^ 4 = 115792089237316195423570985008687907853269984665640564039457584007913129639936 := by decide +kernel
theorem sum4 (n : Nat) (h : n < 115792089237316195423570985008687907853269984665640564039457584007913129639936) : sumf 18446744073709551616 (dg 18446744073709551616 n) 4 = n := by
  have := sumf_dg 18446744073709551616 n 4
  rw [n64_4, Nat.mod_eq_of_lt h] at this
  exact this
/-- four words are a number's -/
theorem e4_of (h : Nat → Int) (hd : ∀ j, j < 4 → 0 ≤ h j ∧ h j < 18446744073709551616) : ∃ m : Nat, m < 115792089237316195423570985008687907853269984665640564039457584007913129639936 ∧ row .u64 4 h = e4 m ∧ sumf 18446744073709551616 h 4 = m := by
  have h0 := sumf_nonneg 18446744073709551616 (by decide) h 4 (fun i hi => (hd i hi).1)
  have h1 := sumf_lt 18446744073709551616 (by decide) h 4 (fun i hi => (hd i hi).2)
  rw [p64_4] at h1
  obtain ⟨m, hm⟩ := Int.eq_ofNat_of_zero_le h0
  refine ⟨m, by omega, row_ext _ _ _ _ (sumf_uniq 18446744073709551616 h m 4 hd hm), hm⟩
theorem mod38 (A A' o o' : Nat) (h : A' + o' * 115792089237316195423570985008687907853269984665640564039457584007913129639936 = A + 38 * o) : (A' + o' * 115792089237316195423570985008687907853269984665640564039457584007913129639936) % PP = (A + o * 115792089237316195423570985008687907853269984665640564039457584007913129639936) % PP := by
  have e : 115792089237316195423570985008687907853269984665640564039457584007913129639936 = 38 + 2 * PP := by decide +kernel
  rw [h, e, Nat.mul_add, ← Nat.add_assoc, show o * (2 * PP) = PP * (2 * o) by ac_rfl, Nat.add_mul_mod_self_left, Nat.mul_comm 38 o]
theorem fold_step (S D g c r q : Int) (F : Int) (h : S + c * D = F) (hr : g + c = r + 18446744073709551616 * q) : (S + r * D) + q * (D * 18446744073709551616) = F + g * D := by
  have : g = r + 18446744073709551616 * q - c := by omega
  subst this; grind

set_option maxRecDepth 100000 in
set_option maxHeartbeats 2000000 in
theorem fold_any (n o : Nat) (hn : n < 115792089237316195423570985008687907853269984665640564039457584007913129639936) (ho : o < 18446744073709551616) (w : World) :
    Calls Try.prog 77 #[.agg (e4 n), .int .u64 o] w (ElP ((n + o * 115792089237316195423570985008687907853269984665640564039457584007913129639936) % PP) w) := by
  obtain ⟨r, hr⟩ : ∃ r, r = (n + o * 115792089237316195423570985008687907853269984665640564039457584007913129639936) % PP := ⟨_, rfl⟩
  rw [← hr]
  have Hn := Lib.hid hn; clear hn
  have Ho := Lib.hid ho; clear ho
  have Hr := Lib.hid hr; clear hr
  go_enter Try.func77, Try.ntmps77
  go_wp2_with fail
  go_loopg [1] (n + o * 115792089237316195423570985008687907853269984665640564039457584007913129639936) (fun gk s wr => ∃ A ov : Nat, gk = A + ov * 115792089237316195423570985008687907853269984665640564039457584007913129639936 ∧ gk % PP = r ∧ A < 115792089237316195423570985008687907853269984665640564039457584007913129639936 ∧ ov < 18446744073709551616 ∧ s = .int .u64 ov ∧ Has wr w.heap.size (e4 A) 36 ∧ HasN wr (w.heap.size + 1) 4 36 ∧ Below w.heap.size w wr)
  case atStart => exact ⟨n, o, rfl, Hr.out.symm, Hn.out, Ho.out, rfl, (Has.new _ _ _).alloc _, HasN.new1 _ _ _ _ 4 rfl, below_2 _ _ _⟩
  case round =>
    obtain ⟨A, ov, hgk, hmod, hA, hov, rfl, m0, m1, hB⟩ := hrel
    by_cases hz : 0 < ov
    · have hdec : (A : Int) = sumf 18446744073709551616 (dg 18446744073709551616 A) 4 := (sum4 A hA).symm
      have hm := fun w => mul64 (ov : Int) 38 (by omega) (by omega) (by omega) (by omega) w
      obtain ⟨hi, hhi⟩ : ∃ x : Int, x = (ov : Int) * 38 / 18446744073709551616 := ⟨_, rfl⟩
      obtain ⟨lo, hlo⟩ : ∃ x : Int, x = (ov : Int) * 38 % 18446744073709551616 := ⟨_, rfl⟩
      rw [← hhi, ← hlo] at hm
      have hi0 : 0 ≤ hi := by omega
      have hi1 : hi ≤ 37 := by omega
      have lo0 : 0 ≤ lo := by omega
      have lo1 : lo < 18446744073709551616 := by omega
      have hsplit : lo + hi * 18446744073709551616 = 38 * (ov : Int) := by omega
      have M0 := Lib.hid m0; clear m0
      have M1 := Lib.hid m1; clear m1
      have Hgk := Lib.hid hgk; clear hgk
      have Hmod := Lib.hid hmod; clear hmod
      have HA := Lib.hid hA; clear hA
      have Hdec := Lib.hid hdec; clear hdec
      have Hm := Lib.hid hm; clear hm
      have Hsplit := Lib.hid hsplit; clear hsplit
      clear hhi hlo
      go_wp2_with fail
      refine (Hm.out _).mono ?_
      rintro e w2 ⟨rfl, rfl⟩
      go_wp2_with fail
      obtain ⟨w3, rfl⟩ : ∃ w3 : World, w3 = wr := ⟨_, rfl⟩
      go_loopw [6, 15] (fun s i wr => ∃ (k : Nat) (h : Nat → Int) (c : Int), k ≤ 4 ∧ i = .int .i64 k ∧ s = .int .u64 c ∧ 0 ≤ c ∧ c < 18446744073709551616 ∧ (1 ≤ k → c ≤ 38) ∧ (∀ j, j < k → 0 ≤ h j ∧ h j < 18446744073709551616) ∧ (∀ j, k ≤ j → h j = dg 18446744073709551616 A j) ∧ sumf 18446744073709551616 h k + c * 18446744073709551616 ^ k = sumf 18446744073709551616 (dg 18446744073709551616 A) k + (if k = 0 then lo else 38 * (ov : Int)) ∧ Has wr w.heap.size (row .u64 4 h) 36 ∧ HasN wr (w.heap.size + 1) 4 36 ∧ Below w.heap.size w wr) (fun _ i _ => 4 - (intOf i).toNat)
      case atStart => exact ⟨0, dg 18446744073709551616 A, lo, by omega, rfl, rfl, lo0, lo1, fun h => by omega, fun j hj => by omega, fun _ _ => rfl, by simp [sumf], M0.out, M1.out, hB⟩
      case round =>
        clear M0 M1 hB
        obtain ⟨k, h, c, hk, rfl, rfl, c0, c1, hc, hd, hg, hs, m0, m1, hB⟩ := hrel
        have M0 := Lib.hid m0; clear m0
        have M1 := Lib.hid m1; clear m1
        have Hc := Lib.hid hc; clear hc
        have Hd := Lib.hid hd; clear hd
        have Hg := Lib.hid hg; clear hg
        have Hs := Lib.hid hs; clear hs
        by_cases hlt : k < 4
        · have h1 := M0.out.cell k hlt
          have hfz := M0.out.frozen k
          have x0 := w_nn A k
          have x1 := w_lt A k
          rw [Hg.out k (Nat.le_refl _)] at h1
          obtain ⟨x, hx⟩ : ∃ x, x = dg 18446744073709551616 A k := ⟨_, rfl⟩
          rw [← hx] at h1 x0 x1
          have ka := fun w => add64_0 x c x0 c0 w
          obtain ⟨s, hss⟩ : ∃ s, s = (x + c) % 18446744073709551616 := ⟨_, rfl⟩
          obtain ⟨d, hdd⟩ : ∃ d, d = (x + c) / 18446744073709551616 := ⟨_, rfl⟩
          rw [← hss, ← hdd] at ka
          have s0 : 0 ≤ s := by omega
          have s1 : s < 18446744073709551616 := by omega
          have d0 : 0 ≤ d := by omega
          have d1 : d ≤ 1 := by omega
          have hsum : x + c = s + 18446744073709551616 * d := by omega
          have Hx := Lib.hid hx; clear hx
          have Hsum := Lib.hid hsum; clear hsum
          clear hss hdd
          by_cases hk0 : k = 0
          · subst hk0
            go_wp2_with fail
            go_roundw
            case measure => simp [intOf]
            case rel =>
              refine ⟨1, upd h 0 s, d + hi, by omega, by go_num, rfl, by omega, by omega, fun _ => by omega, ?_, ?_, ?_, M0.out.set _ _, M1.out.other _ _ (by simp <;> omega), by first | exact hB.setCell (Nat.le_refl _) _ | exact (hB.setCell (Nat.le_refl _) _).drew⟩
              · intro j hj
                obtain rfl : j = 0 := by omega
                rw [upd_same]; exact ⟨s0, s1⟩
              · intro j hj; rw [upd_ne _ _ _ _ (by omega)]; exact Hg.out j (by omega)
              · have := Hsum.out
                have h3 := Hsplit.out
                have h4 := Hs.out
                simp only [sumf, upd_same, Int.pow_zero, Int.mul_one, Int.zero_add, if_true, Int.pow_one] at h4 ⊢
                rw [if_neg (by decide), ← Hx.out]
                omega
          · have ht : ((k : Int) == 0) = false := by simp; omega
            go_wp2_with fail
            go_roundw
            case measure => simp [intOf]; omega
            case rel =>
              refine ⟨k + 1, upd h k s, d, by omega, by go_num, rfl, by omega, by omega, fun _ => by omega, ?_, ?_, ?_, M0.out.set _ _, M1.out.other _ _ (by simp <;> omega), by first | exact hB.setCell (Nat.le_refl _) _ | exact (hB.setCell (Nat.le_refl _) _).drew⟩
              · intro j hj
                by_cases e : j = k
                · subst e; rw [upd_same]; exact ⟨s0, s1⟩
                · rw [upd_ne _ _ _ _ e]; exact Hd.out j (by omega)
              · intro j hj; rw [upd_ne _ _ _ _ (by omega)]; exact Hg.out j (by omega)
              · have h4 := Hs.out
                rw [if_neg hk0] at h4
                rw [if_neg (by omega)]
                simp only [sumf]
                rw [sumf_upd_above _ _ _ _ _ (Nat.le_refl _), upd_same, ← Hx.out, Int.pow_succ]
                have := fold_step _ _ x _ _ _ _ h4 Hsum.out
                omega
        · obtain rfl : k = 4 := by omega
          obtain ⟨A', hA', hrow, hsum⟩ := e4_of h Hd.out
          have hs4 := Hs.out
          rw [hsum, ← Hdec.out, if_neg (by omega), p64_4] at hs4
          have m0 := M0.out
          rw [hrow] at m0
          have hc38 := Hc.out (by omega)
          obtain ⟨o', rfl⟩ := Int.eq_ofNat_of_zero_le c0
          have hnum : A' + o' * 115792089237316195423570985008687907853269984665640564039457584007913129639936 = A + 38 * ov := by omega
          have hmod2 : (A' + o' * 115792089237316195423570985008687907853269984665640564039457584007913129639936) % PP = r := by rw [mod38 A A' ov o' hnum, ← Hgk.out]; exact Hmod.out
          have hms : A' + o' * 115792089237316195423570985008687907853269984665640564039457584007913129639936 < gk := by rw [Hgk.out]; omega
          have M0 := Lib.hid m0; clear m0
          have Hmod2 := Lib.hid hmod2; clear hmod2
          have Hms := Lib.hid hms; clear hms
          have HA' := Lib.hid hA'; clear hA'
          clear hrow hsum hs4 hnum
          go_wp2_with fail
          go_roundg (A' + o' * 115792089237316195423570985008687907853269984665640564039457584007913129639936)
          case measure => exact Hms.out
          case rel => exact ⟨A', o', rfl, Hmod2.out, HA'.out, by omega, rfl, M0.out, M1.out, hB⟩
    · obtain rfl : ov = 0 := by omega
      have hfin : A % PP = r := by rw [← hmod, hgk, Nat.zero_mul, Nat.add_zero]
      obtain ⟨Z, hZ, mz⟩ := m1
      have HBB := Lib.hid (below_setRow hB (w.heap.size + 1) (e4 A) (by omega))
      have M0 := Lib.hid m0; clear m0
      have Mz := Lib.hid mz; clear mz
      have HZ := Lib.hid hZ; clear hZ
      have Hfin := Lib.hid hfin; clear hfin
      have HA := Lib.hid hA; clear hA
      clear hmod hgk hov
      go_wp2_with (first | (refine wpList_load_row rfl 36 _ rfl (w.heap.size) rfl 36 (e4 A) (0, 0) _ M0.out Try.underlying36 rfl (by rw [e4_size]; kernel_rfl) ?_) | (refine wpList_store_row rfl 36 _ _ rfl (w.heap.size + 1) _ rfl rfl 36 Z Mz.out (by rw [e4_size]; kernel_rfl) (HZ.out.trans (e4_size _).symm) (row_one _ _ _) ?_))
      exact bodyPost_ret (v := .agg (e4 A)) (results_cell_row (t := 36) (by rfl) _ _ (w.heap.size + 1) _ _ _ rfl (Mz.out.setRow _) Try.underlying36 rfl (by rw [e4_size]; kernel_rfl)) rfl ⟨A, HA.out, Hfin.out, rfl, HBB.out⟩
end Go.Proofs.Ytjiagjonlcadiaa
end
section
namespace Go.Proofs.Ytjiagjonlcadiaa
open Go.RowKit Go.Lib

theorem add_step (S D F G x y c r q : Int) (h : S + c * D = F + G) (hr : x + y + c = r + 18446744073709551616 * q) : (S + r * D) + q * (D * 18446744073709551616) = (F + x * D) + (G + y * D) := by
  have : x = r + 18446744073709551616 * q - c - y := by omega
  subst this; grind
theorem sub_step (S D F G x y c r q : Int) (h : S = F - G + c * D) (hr : x - y - c = r - 18446744073709551616 * q) : (S + r * D) = (F + x * D) - (G + y * D) + q * (D * 18446744073709551616) := by
  have : x = r - 18446744073709551616 * q + c + y := by omega
  subst this h; grind

set_option maxRecDepth 100000 in
set_option maxHeartbeats 2000000 in
theorem plus_any (a b : Nat) (ha : a < 115792089237316195423570985008687907853269984665640564039457584007913129639936) (hb : b < 115792089237316195423570985008687907853269984665640564039457584007913129639936) (w : World) :
    Calls Try.prog 37 #[.agg (e4 a), .agg (e4 b)] w (ElP ((a + b) % PP) w) := by
  obtain ⟨r, hr⟩ : ∃ r, r = (a + b) % PP := ⟨_, rfl⟩
  rw [← hr]
  have Ha := Lib.hid ha; clear ha
  have Hb := Lib.hid hb; clear hb
  have Hr := Lib.hid hr; clear hr
  go_enter Try.func37, Try.ntmps37
  go_wp2_with fail
  go_loopw [5, 7] (fun s i wr => ∃ (k : Nat) (h : Nat → Int) (c : Int), k ≤ 4 ∧ i = .int .i64 k ∧ s = .int .u64 c ∧ 0 ≤ c ∧ c ≤ 1 ∧ (∀ j, j < k → 0 ≤ h j ∧ h j < 18446744073709551616) ∧ (∀ j, k ≤ j → h j = dg 18446744073709551616 a j) ∧ sumf 18446744073709551616 h k + c * 18446744073709551616 ^ k = sumf 18446744073709551616 (dg 18446744073709551616 a) k + sumf 18446744073709551616 (dg 18446744073709551616 b) k ∧ Has wr w.heap.size (row .u64 4 h) 36 ∧ Has wr (w.heap.size + 1) (e4 b) 36 ∧ HasN wr (w.heap.size + 1 + 1) 4 36 ∧ Below w.heap.size w wr) (fun _ i _ => 4 - (intOf i).toNat)
  case atStart => exact ⟨0, dg 18446744073709551616 a, 0, by omega, rfl, rfl, by omega, by omega, fun j hj => by omega, fun _ _ => rfl, by simp [sumf], ((Has.new _ _ _).alloc _).alloc _, (Has.new1 _ _ _ _).alloc _, HasN.new2 _ _ _ _ _ 4 rfl, below_3 _ _ _ _⟩
  case round =>
    obtain ⟨k, h, c, hk, rfl, rfl, c0, c1, hd, hg, hs, m0, m1, m2, hB⟩ := hrel
    have M0 := Lib.hid m0; clear m0
    have M1 := Lib.hid m1; clear m1
    have M2 := Lib.hid m2; clear m2
    have Hd := Lib.hid hd; clear hd
    have Hg := Lib.hid hg; clear hg
    have Hs := Lib.hid hs; clear hs
    by_cases hlt : k < 4
    · have h1 := M0.out.cell k hlt
      have h2 := M1.out.cell k hlt
      have hfz := M0.out.frozen k
      have x0 := w_nn a k
      have x1 := w_lt a k
      have y0 := w_nn b k
      have y1 := w_lt b k
      rw [Hg.out k (Nat.le_refl _)] at h1
      obtain ⟨x, hx⟩ : ∃ x, x = dg 18446744073709551616 a k := ⟨_, rfl⟩
      obtain ⟨y, hy⟩ : ∃ y, y = dg 18446744073709551616 b k := ⟨_, rfl⟩
      rw [← hx] at h1 x0 x1
      rw [← hy] at h2 y0 y1
      have ka := fun w => add64 x y c x0 y0 c0 c1 w
      obtain ⟨s, hss⟩ : ∃ s, s = (x + y + c) % 18446744073709551616 := ⟨_, rfl⟩
      obtain ⟨d, hdd⟩ : ∃ d, d = (x + y + c) / 18446744073709551616 := ⟨_, rfl⟩
      rw [← hss, ← hdd] at ka
      have s0 : 0 ≤ s := by omega
      have s1 : s < 18446744073709551616 := by omega
      have d0 : 0 ≤ d := by omega
      have d1 : d ≤ 1 := by omega
      have hsum : x + y + c = s + 18446744073709551616 * d := by omega
      have Hx := Lib.hid hx; clear hx
      have Hy := Lib.hid hy; clear hy
      have Hsum := Lib.hid hsum; clear hsum
      clear hss hdd
      go_wp2_with fail
      go_region
      go_wp2_with fail
      go_roundw
      case measure => simp [intOf]; omega
      case rel =>
        refine ⟨k + 1, upd h k s, d, by omega, by go_num, rfl, d0, d1, ?_, ?_, ?_, M0.out.set _ _, M1.out.other _ _ (by simp <;> omega), M2.out.other _ _ (by simp <;> omega), by first | exact hB.setCell (Nat.le_refl _) _ | exact (hB.setCell (Nat.le_refl _) _).drew⟩
        · intro j hj
          by_cases e : j = k
          · subst e; rw [upd_same]; exact ⟨s0, s1⟩
          · rw [upd_ne _ _ _ _ e]; exact Hd.out j (by omega)
        · intro j hj; rw [upd_ne _ _ _ _ (by omega)]; exact Hg.out j (by omega)
        · simp only [sumf]
          rw [sumf_upd_above _ _ _ _ _ (Nat.le_refl _), upd_same, ← Hx.out, ← Hy.out, Int.pow_succ]
          exact add_step _ _ _ _ _ _ _ _ _ Hs.out Hsum.out
    · obtain rfl : k = 4 := by omega
      obtain ⟨A', hA', hrow, hsum⟩ := e4_of h Hd.out
      have hs4 := Hs.out
      rw [hsum, sum4 a Ha.out, sum4 b Hb.out, p64_4] at hs4
      have m0 := M0.out
      rw [hrow] at m0
      obtain ⟨o', rfl⟩ := Int.eq_ofNat_of_zero_le c0
      have hf := fun w => fold_any A' o' hA' (by omega) w
      rw [show (A' + o' * 115792089237316195423570985008687907853269984665640564039457584007913129639936) % PP = r by rw [Hr.out]; congr 1; omega] at hf
      have M0 := Lib.hid m0; clear m0
      have Hf := Lib.hid hf; clear hf
      clear hrow hsum hs4 hA'
      go_wp2_with (refine wpList_load_row rfl 36 _ rfl (w.heap.size) rfl 36 (e4 A') (0, 0) _ M0.out Try.underlying36 rfl (by rw [e4_size]; kernel_rfl) ?_)
      refine (Hf.out _).mono ?_
      rintro e w1 ⟨m, hm, hmr, rfl, b1⟩
      obtain ⟨Z, hZ, mz⟩ := M2.out.call b1
      have HBB := Lib.hid (below_setRow (held_next hB b1) (w.heap.size + 1 + 1) (e4 m) (by omega))
      have Mz := Lib.hid mz; clear mz
      have HZ := Lib.hid hZ; clear hZ
      have Hm := Lib.hid hm; clear hm
      have Hmr := Lib.hid hmr; clear hmr
      clear b1
      go_wp2_with (refine wpList_store_row rfl 36 _ _ rfl (w.heap.size + 1 + 1) _ rfl rfl 36 Z Mz.out (by rw [e4_size]; kernel_rfl) (HZ.out.trans (e4_size _).symm) (row_one _ _ _) ?_)
      exact bodyPost_ret (v := .agg (e4 m)) (results_cell_row (t := 36) (by rfl) _ _ (w.heap.size + 1 + 1) _ _ _ rfl (Mz.out.setRow _) Try.underlying36 rfl (by rw [e4_size]; kernel_rfl)) rfl ⟨m, Hm.out, Hmr.out, rfl, HBB.out⟩
end Go.Proofs.Ytjiagjonlcadiaa
end
section
namespace Go.Proofs.Ytjiagjonlcadiaa
open Go.RowKit Go.Lib

theorem bor_sum (x y c : Int) (hx : 0 ≤ x) (hx' : x < 18446744073709551616) (hy : 0 ≤ y) (hy' : y < 18446744073709551616) (hc : 0 ≤ c) (hc' : c ≤ 1) :
    ∃ s d : Int, (x - y - c) % 18446744073709551616 = s ∧ bor x (y + c) = d ∧ 0 ≤ s ∧ s < 18446744073709551616 ∧ 0 ≤ d ∧ d ≤ 1 ∧ x - y - c = s - 18446744073709551616 * d := by
  refine ⟨_, _, rfl, rfl, by omega, by omega, (bor_01 _ _).1, (bor_01 _ _).2, ?_⟩
  unfold bor
  split <;> omega
/-- how many rounds are to come -/
def rounds (c A : Nat) : Nat := if c = 0 then 0 else if A < 38 then 2 else 1
theorem rounds_down (A A' d : Nat) (hd : d ≤ 1) (h : A' + 38 = A + d * 115792089237316195423570985008687907853269984665640564039457584007913129639936) (hA' : A' < 115792089237316195423570985008687907853269984665640564039457584007913129639936) : rounds d A' < rounds 1 A := by
  unfold rounds
  rw [if_neg (show ¬ (1 = 0) by decide)]
  by_cases h0 : d = 0
  · rw [if_pos h0]; split <;> omega
  · rw [if_neg h0, if_neg (by omega), if_pos (by omega)]; omega
/-- what is left, as a residue: A less c times 2^256, modulo the prime -/
theorem minus_mod (A A' d : Nat) (h : A' + 38 = A + d * 115792089237316195423570985008687907853269984665640564039457584007913129639936) : ((A' : Int) - d * 115792089237316195423570985008687907853269984665640564039457584007913129639936) % (PP : Int) = ((A : Int) - 1 * 115792089237316195423570985008687907853269984665640564039457584007913129639936) % (PP : Int) := by
  have e : (115792089237316195423570985008687907853269984665640564039457584007913129639936 : Int) = 38 + 2 * (PP : Int) := by decide +kernel
  have e2 : (A' : Int) - d * 115792089237316195423570985008687907853269984665640564039457584007913129639936 = ((A : Int) - 1 * 115792089237316195423570985008687907853269984665640564039457584007913129639936) + (PP : Int) * 2 := by omega
  rw [e2, Int.add_mul_emod_self_left]
theorem minus_res (a b : Nat) : (((a : Int) - b) % (PP : Int)).toNat = (a % PP + (PP - b % PP)) % PP := by
  have hp := PP_pos
  have hb := Nat.mod_lt b hp
  have e1 := Nat.div_add_mod a PP
  have e2 := Nat.div_add_mod b PP
  generalize a % PP = x at *
  generalize b % PP = y at *
  generalize a / PP = qa at *
  generalize b / PP = qb at *
  have : (a : Int) - b = ((x + (PP - y) : Nat) : Int) + (PP : Int) * ((qa : Int) - qb - 1) := by
    rw [← e1, ← e2, Int.natCast_add, Int.natCast_add, Int.natCast_add, Int.natCast_mul, Int.natCast_mul, Int.natCast_sub (by omega), Int.mul_sub, Int.mul_sub]
    omega
  rw [this, Int.add_mul_emod_self_left, ← Int.natCast_emod, Int.toNat_natCast]

set_option maxRecDepth 100000 in
set_option maxHeartbeats 4000000 in
theorem minus_any (a b : Nat) (ha : a < 115792089237316195423570985008687907853269984665640564039457584007913129639936) (hb : b < 115792089237316195423570985008687907853269984665640564039457584007913129639936) (w : World) :
    Calls Try.prog 39 #[.agg (e4 a), .agg (e4 b)] w (ElP ((a % PP + (PP - b % PP)) % PP) w) := by
  rw [← minus_res]
  obtain ⟨r, hr⟩ : ∃ r, r = ((a : Int) - b) % (PP : Int) := ⟨_, rfl⟩
  rw [← hr]
  have Ha := Lib.hid ha; clear ha
  have Hb := Lib.hid hb; clear hb
  have Hr := Lib.hid hr; clear hr
  go_enter Try.func39, Try.ntmps39
  go_wp2_with fail
  go_loopw [5, 9] (fun s i wr => ∃ (k : Nat) (h : Nat → Int) (c : Int), k ≤ 4 ∧ i = .int .i64 k ∧ s = .int .u64 c ∧ 0 ≤ c ∧ c ≤ 1 ∧ (∀ j, j < k → 0 ≤ h j ∧ h j < 18446744073709551616) ∧ (∀ j, k ≤ j → h j = dg 18446744073709551616 a j) ∧ sumf 18446744073709551616 h k = sumf 18446744073709551616 (dg 18446744073709551616 a) k - sumf 18446744073709551616 (dg 18446744073709551616 b) k + c * 18446744073709551616 ^ k ∧ Has wr w.heap.size (row .u64 4 h) 36 ∧ Has wr (w.heap.size + 1) (e4 b) 36 ∧ HasN wr (w.heap.size + 1 + 1) 4 36 ∧ Below w.heap.size w wr) (fun _ i _ => 4 - (intOf i).toNat)
  case atStart => exact ⟨0, dg 18446744073709551616 a, 0, by omega, rfl, rfl, by omega, by omega, fun j hj => by omega, fun _ _ => rfl, by simp [sumf], ((Has.new _ _ _).alloc _).alloc _, (Has.new1 _ _ _ _).alloc _, HasN.new2 _ _ _ _ _ 4 rfl, below_3 _ _ _ _⟩
  case round =>
    obtain ⟨k, h, c, hk, rfl, rfl, c0, c1, hd, hg, hs, m0, m1, m2, hB⟩ := hrel
    have M0 := Lib.hid m0; clear m0
    have M1 := Lib.hid m1; clear m1
    have M2 := Lib.hid m2; clear m2
    have Hd := Lib.hid hd; clear hd
    have Hg := Lib.hid hg; clear hg
    have Hs := Lib.hid hs; clear hs
    by_cases hlt : k < 4
    · have h1 := M0.out.cell k hlt
      have h2 := M1.out.cell k hlt
      have hfz := M0.out.frozen k
      have x0 := w_nn a k
      have x1 := w_lt a k
      have y0 := w_nn b k
      have y1 := w_lt b k
      rw [Hg.out k (Nat.le_refl _)] at h1
      obtain ⟨x, hx⟩ : ∃ x, x = dg 18446744073709551616 a k := ⟨_, rfl⟩
      obtain ⟨y, hy⟩ : ∃ y, y = dg 18446744073709551616 b k := ⟨_, rfl⟩
      rw [← hx] at h1 x0 x1
      rw [← hy] at h2 y0 y1
      have ka := fun w => sub64 x y c x0 y0 y1 c0 c1 w
      obtain ⟨s, d, hss, hdd, s0, s1, d0, d1, hsum⟩ := bor_sum x y c x0 x1 y0 y1 c0 c1
      rw [hss, hdd] at ka
      have Hx := Lib.hid hx; clear hx
      have Hy := Lib.hid hy; clear hy
      have Hsum := Lib.hid hsum; clear hsum
      clear hss hdd
      go_wp2_with fail
      go_region
      go_wp2_with fail
      go_roundw
      case measure => simp [intOf]; omega
      case rel =>
        refine ⟨k + 1, upd h k s, d, by omega, by go_num, rfl, d0, d1, ?_, ?_, ?_, M0.out.set _ _, M1.out.other _ _ (by simp <;> omega), M2.out.other _ _ (by simp <;> omega), by first | exact hB.setCell (Nat.le_refl _) _ | exact (hB.setCell (Nat.le_refl _) _).drew⟩
        · intro j hj
          by_cases e : j = k
          · subst e; rw [upd_same]; exact ⟨s0, s1⟩
          · rw [upd_ne _ _ _ _ e]; exact Hd.out j (by omega)
        · intro j hj; rw [upd_ne _ _ _ _ (by omega)]; exact Hg.out j (by omega)
        · simp only [sumf]
          rw [sumf_upd_above _ _ _ _ _ (Nat.le_refl _), upd_same, ← Hx.out, ← Hy.out, Int.pow_succ]
          exact sub_step _ _ _ _ _ _ _ _ _ Hs.out Hsum.out
    · obtain rfl : k = 4 := by omega
      obtain ⟨A', hA', hrow, hsum⟩ := e4_of h Hd.out
      have hs4 := Hs.out
      rw [hsum, sum4 a Ha.out, sum4 b Hb.out, p64_4] at hs4
      have m0 := M0.out
      rw [hrow] at m0
      obtain ⟨o', rfl⟩ := Int.eq_ofNat_of_zero_le c0
      have hres : ((A' : Int) - o' * 115792089237316195423570985008687907853269984665640564039457584007913129639936) % (PP : Int) = r := by rw [Hr.out]; congr 1; omega
      have M1' := Lib.hid ((M1.out.toN (e4_size _)))
      have M0 := Lib.hid m0; clear m0
      have Hres := Lib.hid hres; clear hres
      have HA' := Lib.hid hA'; clear hA'
      clear hrow hsum hs4 Ha Hb Hr M1
      go_wp2_with fail
      obtain ⟨w2, rfl⟩ : ∃ w2 : World, w2 = wr := ⟨_, rfl⟩
      go_loopg [5] (rounds o' A') (fun gk s wr => ∃ A c : Nat, gk = rounds c A ∧ A < 115792089237316195423570985008687907853269984665640564039457584007913129639936 ∧ c ≤ 1 ∧ s = .int .u64 c ∧ ((A : Int) - c * 115792089237316195423570985008687907853269984665640564039457584007913129639936) % (PP : Int) = r ∧ Has wr w.heap.size (e4 A) 36 ∧ HasN wr (w.heap.size + 1 + 1) 4 36 ∧ Below w.heap.size w wr)
      case atStart => exact ⟨A', o', rfl, HA'.out, by omega, rfl, Hres.out, M0.out, M2.out, hB⟩
      case round =>
        clear M0 M2 hB Hres HA' M1'
        obtain ⟨A, c, hgk, hA, hc, rfl, hres, m0, m2, hB⟩ := hrel
        have M0 := Lib.hid m0; clear m0
        have M2 := Lib.hid m2; clear m2
        have Hgk := Lib.hid hgk; clear hgk
        have Hres := Lib.hid hres; clear hres
        have HA := Lib.hid hA; clear hA
        by_cases hz : 0 < c
        · obtain rfl : c = 1 := by omega
          have h1 := M0.out.cell 0 (by omega)
          have hfz := M0.out.frozen 0
          have x0 := w_nn A 0
          have x1 := w_lt A 0
          obtain ⟨x, hx⟩ : ∃ x, x = dg 18446744073709551616 A 0 := ⟨_, rfl⟩
          rw [← hx] at h1 x0 x1
          have ka := fun w => sub64_0 x 38 x0 (by omega) (by omega) w
          obtain ⟨s, d, hss, hdd, s0, s1, d0, d1, hsum⟩ := bor_sum x 38 0 x0 x1 (by omega) (by omega) (by omega) (by omega)
          rw [Int.sub_zero] at hss
          rw [Int.add_zero] at hdd
          rw [hss, hdd] at ka
          have m0' := M0.out.set 0 s
          have m2' := M2.out.other ⟨w.heap.size, 0, none⟩ (.int .u64 s) (by simp <;> omega)
          have hB' := hB.setCell (p := ⟨w.heap.size, 0, none⟩) (Nat.le_refl _) (.int .u64 s)
          have Hx := Lib.hid hx; clear hx
          have Hsum := Lib.hid hsum; clear hsum
          have M0' := Lib.hid m0'; clear m0'
          have M2' := Lib.hid m2'; clear m2'
          have HB' := Lib.hid hB'; clear hB'
          clear hss hdd
          go_wp2_with fail
          clear M0 M2 hB
          obtain ⟨w3, rfl⟩ : ∃ w3 : World, w3 = wr := ⟨_, rfl⟩
          go_loopw [7, 8] (fun u i wr => ∃ (k : Nat) (h : Nat → Int) (dd : Int), 1 ≤ k ∧ k ≤ 4 ∧ i = .int .i64 k ∧ u = .int .u64 dd ∧ 0 ≤ dd ∧ dd ≤ 1 ∧ (∀ j, j < k → 0 ≤ h j ∧ h j < 18446744073709551616) ∧ (∀ j, k ≤ j → h j = dg 18446744073709551616 A j) ∧ sumf 18446744073709551616 h k = sumf 18446744073709551616 (dg 18446744073709551616 A) k - 38 + dd * 18446744073709551616 ^ k ∧ Has wr w.heap.size (row .u64 4 h) 36 ∧ HasN wr (w.heap.size + 1 + 1) 4 36 ∧ Below w.heap.size w wr) (fun _ i _ => 4 - (intOf i).toNat)
          case atStart =>
            refine ⟨1, upd (dg 18446744073709551616 A) 0 s, d, by omega, by omega, rfl, rfl, d0, d1, ?_, ?_, ?_, M0'.out, M2'.out, HB'.out⟩
            · intro j hj
              obtain rfl : j = 0 := by omega
              rw [upd_same]; exact ⟨s0, s1⟩
            · intro j hj; rw [upd_ne _ _ _ _ (by omega)]
            · have := Hsum.out
              simp only [sumf, upd_same, Int.pow_zero, Int.mul_one, Int.zero_add, Int.pow_one]
              rw [← Hx.out]; omega
          case round =>
            clear M0' M2' HB'
            obtain ⟨k, h, dd, hk1, hk, rfl, rfl, dd0, dd1, hd, hg, hs, m0, m2, hB⟩ := hrel
            have M0 := Lib.hid m0; clear m0
            have M2 := Lib.hid m2; clear m2
            have Hd := Lib.hid hd; clear hd
            have Hg := Lib.hid hg; clear hg
            have Hs := Lib.hid hs; clear hs
            by_cases hlt : k < 4
            · have h1 := M0.out.cell k hlt
              have hfz := M0.out.frozen k
              have y0 := w_nn A k
              have y1 := w_lt A k
              rw [Hg.out k (Nat.le_refl _)] at h1
              obtain ⟨y, hy⟩ : ∃ y, y = dg 18446744073709551616 A k := ⟨_, rfl⟩
              rw [← hy] at h1 y0 y1
              have kb := fun w => sub64 y 0 dd y0 (by omega) (by omega) dd0 dd1 w
              obtain ⟨s', d', hss, hdd, s0', s1', d0', d1', hsum'⟩ := bor_sum y 0 dd y0 y1 (by omega) (by omega) dd0 dd1
              rw [hss, hdd] at kb
              have Hy := Lib.hid hy; clear hy
              have Hsum' := Lib.hid hsum'; clear hsum'
              clear hss hdd ka
              go_wp2_with fail
              go_roundw
              case measure => simp [intOf]; omega
              case rel =>
                refine ⟨k + 1, upd h k s', d', by omega, by omega, by go_num, rfl, d0', d1', ?_, ?_, ?_, M0.out.set _ _, M2.out.other _ _ (by simp <;> omega), by first | exact hB.setCell (Nat.le_refl _) _ | exact (hB.setCell (Nat.le_refl _) _).drew⟩
                · intro j hj
                  by_cases e : j = k
                  · subst e; rw [upd_same]; exact ⟨s0', s1'⟩
                  · rw [upd_ne _ _ _ _ e]; exact Hd.out j (by omega)
                · intro j hj; rw [upd_ne _ _ _ _ (by omega)]; exact Hg.out j (by omega)
                · have := sub_step _ _ _ 38 _ 0 _ _ _ Hs.out Hsum'.out
                  simp only [sumf]
                  rw [sumf_upd_above _ _ _ _ _ (Nat.le_refl _), upd_same, ← Hy.out, Int.pow_succ, this]
                  omega
            · obtain rfl : k = 4 := by omega
              obtain ⟨A2, hA2, hrow, hsum2⟩ := e4_of h Hd.out
              have hs4 := Hs.out
              rw [hsum2, sum4 A HA.out, p64_4] at hs4
              have m0 := M0.out
              rw [hrow] at m0
              obtain ⟨o2, rfl⟩ := Int.eq_ofNat_of_zero_le dd0
              have hnum : A2 + 38 = A + o2 * 115792089237316195423570985008687907853269984665640564039457584007913129639936 := by omega
              have hres2 : ((A2 : Int) - o2 * 115792089237316195423570985008687907853269984665640564039457584007913129639936) % (PP : Int) = r := by rw [minus_mod A A2 o2 hnum]; exact Hres.out
              have hms : rounds o2 A2 < gk := by rw [Hgk.out]; exact rounds_down A A2 o2 (by omega) hnum hA2
              have M0 := Lib.hid m0; clear m0
              have Hres2 := Lib.hid hres2; clear hres2
              have HA2 := Lib.hid hA2; clear hA2
              have Hms := Lib.hid hms; clear hms
              clear hrow hsum2 hs4 ka hnum
              go_wp2_with fail
              go_roundg (rounds o2 A2)
              case measure => exact Hms.out
              case rel => exact ⟨A2, o2, rfl, HA2.out, by omega, rfl, Hres2.out, M0.out, M2.out, hB⟩
        · obtain rfl : c = 0 := by omega
          obtain ⟨Z, hZ, mz⟩ := M2.out
          have hfin : A % PP = r.toNat := by
            have := Hres.out
            rw [← this]
            have e : ((A : Int) - ((0 : Nat) : Int) * 115792089237316195423570985008687907853269984665640564039457584007913129639936) = (A : Int) := by omega
            rw [e, ← Int.natCast_emod, Int.toNat_natCast]
          have HBB := Lib.hid (below_setRow hB (w.heap.size + 1 + 1) (e4 A) (by omega))
          have Mz := Lib.hid mz; clear mz
          have HZ := Lib.hid hZ; clear hZ
          have Hfin := Lib.hid hfin; clear hfin
          clear Hgk Hres
          go_wp2_with (first | (refine wpList_load_row rfl 36 _ rfl (w.heap.size) rfl 36 (e4 A) (0, 0) _ M0.out Try.underlying36 rfl (by rw [e4_size]; kernel_rfl) ?_) | (refine wpList_store_row rfl 36 _ _ rfl (w.heap.size + 1 + 1) _ rfl rfl 36 Z Mz.out (by rw [e4_size]; kernel_rfl) (HZ.out.trans (e4_size _).symm) (row_one _ _ _) ?_))
          exact bodyPost_ret (v := .agg (e4 A)) (results_cell_row (t := 36) (by rfl) _ _ (w.heap.size + 1 + 1) _ _ _ rfl (Mz.out.setRow _) Try.underlying36 rfl (by rw [e4_size]; kernel_rfl)) rfl ⟨A, HA.out, Hfin.out, rfl, HBB.out⟩
end Go.Proofs.Ytjiagjonlcadiaa
end
section
namespace Go.Proofs.Ytjiagjonlcadiaa
open Go.RowKit Go.Lib

theorem mul_step (x y wd cr : Int) (hx : 0 ≤ x) (hx' : x < 18446744073709551616) (hy : 0 ≤ y) (hy' : y < 18446744073709551616) (hw : 0 ≤ wd) (hw' : wd < 18446744073709551616) (hc : 0 ≤ cr) (hc' : cr < 18446744073709551616) :
    ∃ hi lo s1 c1 s2 c2 : Int, x * y / 18446744073709551616 = hi ∧ x * y % 18446744073709551616 = lo ∧ (lo + wd) % 18446744073709551616 = s1 ∧ (lo + wd) / 18446744073709551616 = c1 ∧ (s1 + cr) % 18446744073709551616 = s2 ∧ (s1 + cr) / 18446744073709551616 = c2 ∧
      0 ≤ hi ∧ hi < 18446744073709551616 ∧ 0 ≤ lo ∧ lo < 18446744073709551616 ∧ 0 ≤ s1 ∧ s1 < 18446744073709551616 ∧ 0 ≤ c1 ∧ c1 ≤ 1 ∧ 0 ≤ s2 ∧ s2 < 18446744073709551616 ∧ 0 ≤ c2 ∧ c2 ≤ 1 ∧ hi + c1 < 18446744073709551616 ∧ hi + c1 + c2 < 18446744073709551616 ∧
      s2 + 18446744073709551616 * (hi + c1 + c2) = x * y + wd + cr := by
  have hp : x * y ≤ 18446744073709551615 * 18446744073709551615 := Int.mul_le_mul (by omega) (by omega) hy (by decide)
  have hp0 : 0 ≤ x * y := Int.mul_nonneg hx hy
  generalize x * y = p at *
  exact ⟨_, _, _, _, _, _, rfl, rfl, rfl, rfl, rfl, rfl, by omega, by omega, by omega, by omega, by omega, by omega, by omega, by omega, by omega, by omega, by omega, by omega, by omega, by omega, by omega⟩
theorem sumf_succ (B : Int) (f : Nat → Int) (n : Nat) : sumf B f (n + 1) = sumf B f n + f n * B ^ n := rfl
theorem mul_add (H G D X b y cr wd s2 k' Bk : Int) (h : H + cr * (D * Bk) = G + X * D * b) (hs : s2 + 18446744073709551616 * k' = X * y + wd + cr) : H + (s2 - wd) * (D * Bk) + k' * (D * (Bk * 18446744073709551616)) = G + X * D * (b + y * Bk) := by
  have : s2 = X * y + wd + cr - 18446744073709551616 * k' := by omega
  subst this; grind
theorem low_add (S D F G x y c r q : Int) (h : S + c * D = F + 38 * G) (hr : r + 18446744073709551616 * q = y * 38 + x + c) : (S + r * D) + q * (D * 18446744073709551616) = (F + x * D) + 38 * (G + y * D) := by
  have : r = y * 38 + x + c - 18446744073709551616 * q := by omega
  subst this; grind
theorem lh_mod (A o L H m : Nat) (h : A + o * 115792089237316195423570985008687907853269984665640564039457584007913129639936 = L + 38 * H) (hm : m = L + 115792089237316195423570985008687907853269984665640564039457584007913129639936 * H) : (A + o * 115792089237316195423570985008687907853269984665640564039457584007913129639936) % PP = m % PP := by
  have e : 115792089237316195423570985008687907853269984665640564039457584007913129639936 = 38 + 2 * PP := by decide +kernel
  rw [h, hm, e, Nat.add_mul, ← Nat.add_assoc, show 2 * PP * H = PP * (2 * H) by ac_rfl, Nat.add_mul_mod_self_left]

set_option maxRecDepth 100000 in
set_option maxHeartbeats 4000000 in
theorem times_any (a b : Nat) (ha : a < 115792089237316195423570985008687907853269984665640564039457584007913129639936) (hb : b < 115792089237316195423570985008687907853269984665640564039457584007913129639936) (w : World) :
    Calls Try.prog 31 #[.agg (e4 a), .agg (e4 b)] w (ElP (a * b % PP) w) := by
  obtain ⟨r, hr⟩ : ∃ r, r = a * b % PP := ⟨_, rfl⟩
  rw [← hr]
  have Ha := Lib.hid ha; clear ha
  have Hb := Lib.hid hb; clear hb
  have Hr := Lib.hid hr; clear hr
  go_enter Try.func31, Try.ntmps31
  have M0 := Lib.hid (((Has.new w (e4 a) 36).alloc (.cells (e4 b) 36)).alloc (.cells (#[.int .u64 0, .int .u64 0, .int .u64 0, .int .u64 0] : Array Value) 36) |>.alloc (.cells (#[.int .u64 0, .int .u64 0, .int .u64 0, .int .u64 0, .int .u64 0, .int .u64 0, .int .u64 0, .int .u64 0] : Array Value) 96))
  go_wp2_with (refine wpList_load_row rfl 36 _ rfl (w.heap.size) rfl 36 (e4 a) (0, 0) _ M0.out Try.underlying36 rfl (by rw [e4_size]; kernel_rfl) ?_)
  clear M0
  go_loopw [21] (fun i wr => ∃ (k : Nat) (h : Nat → Int), k ≤ 4 ∧ i = .int .i64 k ∧ (∀ j, 0 ≤ h j ∧ h j < 18446744073709551616) ∧ (∀ j, k + 4 ≤ j → h j = 0) ∧ sumf 18446744073709551616 h (k + 4) = sumf 18446744073709551616 (dg 18446744073709551616 a) k * b ∧ Has wr w.heap.size (e4 a) 36 ∧ Has wr (w.heap.size + 1) (e4 b) 36 ∧ HasN wr (w.heap.size + 1 + 1) 4 36 ∧ Has wr (w.heap.size + 1 + 1 + 1) (row .u64 8 h) 96 ∧ Below w.heap.size w wr) (fun i _ => 4 - (intOf i).toNat)
  case atStart => exact ⟨0, fun _ => 0, by omega, rfl, fun j => by simp, fun _ _ => rfl, by rw [sumf_zero _ _ _ (fun _ _ => rfl)]; simp [sumf], ((Has.new _ _ _).alloc _ |>.alloc _).alloc _, ((Has.new1 _ _ _ _).alloc _).alloc _, (HasN.new2 _ _ _ _ _ 4 rfl).alloc _, Has.new3 _ _ _ _ _ _, below_4 _ _ _ _ _⟩
  case round =>
    obtain ⟨i, g, hi, rfl, hd, hz, hs, m0, m1, m2, m3, hB⟩ := hrel
    have M0 := Lib.hid m0; clear m0
    have M1 := Lib.hid m1; clear m1
    have M2 := Lib.hid m2; clear m2
    have M3 := Lib.hid m3; clear m3
    have Hd := Lib.hid hd; clear hd
    have Hz := Lib.hid hz; clear hz
    have Hs := Lib.hid hs; clear hs
    by_cases hlt : i < 4
    · have hix := fun w => run_index_row w 36 34 4 .u64 Try.underlying36 Try.underlying34 sz_u64 (dg 18446744073709551616 a) i hlt
      have x0 := w_nn a i
      have x1 := w_lt a i
      obtain ⟨x, hx⟩ : ∃ x, x = dg 18446744073709551616 a i := ⟨_, rfl⟩
      rw [← hx] at hix x0 x1
      rw [show row .u64 4 (dg 18446744073709551616 a) = e4 a from rfl] at hix
      have Hx := Lib.hid hx; clear hx
      go_wp2_with (refine wpList_load_row rfl 36 _ rfl (w.heap.size + 1) rfl 36 (e4 b) (0, 0) _ M1.out Try.underlying36 rfl (by rw [e4_size]; kernel_rfl) ?_)
      obtain ⟨w2, rfl⟩ : ∃ w2 : World, w2 = wr := ⟨_, rfl⟩
      go_loopw [8, 26] (fun u s wr => ∃ (k : Nat) (h : Nat → Int) (cr : Int), k ≤ 4 ∧ s = .int .i64 k ∧ u = .int .u64 cr ∧ 0 ≤ cr ∧ cr < 18446744073709551616 ∧ (∀ j, 0 ≤ h j ∧ h j < 18446744073709551616) ∧ (∀ j, i + 4 ≤ j → h j = 0) ∧ sumf 18446744073709551616 h (i + 4) + cr * (18446744073709551616 ^ i * 18446744073709551616 ^ k) = sumf 18446744073709551616 g (i + 4) + x * 18446744073709551616 ^ i * sumf 18446744073709551616 (dg 18446744073709551616 b) k ∧ Has wr w.heap.size (e4 a) 36 ∧ Has wr (w.heap.size + 1) (e4 b) 36 ∧ HasN wr (w.heap.size + 1 + 1) 4 36 ∧ Has wr (w.heap.size + 1 + 1 + 1) (row .u64 8 h) 96 ∧ Below w.heap.size w wr) (fun _ s _ => 4 - (intOf s).toNat)
      case atStart => exact ⟨0, g, 0, by omega, rfl, rfl, by omega, by omega, Hd.out, Hz.out, by rw [show sumf 18446744073709551616 (dg 18446744073709551616 b) 0 = 0 from rfl]; simp, M0.out, M1.out, M2.out, M3.out, hB⟩
      case round =>
        clear M0 M1 M2 M3 hB
        obtain ⟨k, h, cr, hk, rfl, rfl, cr0, cr1, hd, hz, hs, m0, m1, m2, m3, hB⟩ := hrel
        have He := Lib.hid hd; clear hd
        have Hy := Lib.hid hz; clear hz
        have Ht := Lib.hid hs; clear hs
        have M0 := Lib.hid m0; clear m0
        have M1 := Lib.hid m1; clear m1
        have M2 := Lib.hid m2; clear m2
        have M3 := Lib.hid m3; clear m3
        by_cases hlk : k < 4
        · have hiy := fun w => run_index_row w 36 34 4 .u64 Try.underlying36 Try.underlying34 sz_u64 (dg 18446744073709551616 b) k hlk
          have y0 := w_nn b k
          have y1 := w_lt b k
          have h3 := M3.out.cell (i + k) (by omega)
          have hfz := M3.out.frozen (i + k)
          have z0 := (He.out (i + k)).1
          have z1 := (He.out (i + k)).2
          obtain ⟨y, hy⟩ : ∃ y, y = dg 18446744073709551616 b k := ⟨_, rfl⟩
          obtain ⟨wd, hwd⟩ : ∃ z, z = h (i + k) := ⟨_, rfl⟩
          rw [← hy] at hiy y0 y1
          rw [← hwd] at h3 z0 z1
          rw [show row .u64 4 (dg 18446744073709551616 b) = e4 b from rfl] at hiy
          have hm := fun w => mul64 x y x0 x1 y0 y1 w
          obtain ⟨hi', lo, s1, c1, s2, c2, e1, e2, e3, e4', e5, e6, b1, b2, b3, b4, b5, b6, b7, b8, b9, b10, b11, b12, b13, b14, hsum⟩ := mul_step x y wd cr x0 x1 y0 y1 z0 z1 cr0 cr1
          have ka := fun w => add64_0 lo wd b3 z0 w
          have kb := fun w => add64_0 s1 cr b5 cr0 w
          rw [e1, e2] at hm
          rw [e3, e4'] at ka
          rw [e5, e6] at kb
          have HyK := Lib.hid hy; clear hy
          have Hwd := Lib.hid hwd; clear hwd
          have Hm := Lib.hid hm; clear hm
          have Hsum := Lib.hid hsum; clear hsum
          clear e1 e2 e3 e4' e5 e6
          go_wp2_with fail
          refine (Hm.out _).mono ?_
          rintro e w3 ⟨rfl, rfl⟩
          go_wp2_with fail
          go_roundw
          case measure => simp [intOf]; omega
          case rel =>
            refine ⟨k + 1, upd h (i + k) s2, hi' + c1 + c2, by omega, by go_num, rfl, by omega, b14, ?_, ?_, ?_, M0.out.other _ _ (by simp <;> omega), M1.out.other _ _ (by simp <;> omega), M2.out.other _ _ (by simp <;> omega), M3.out.set _ _, by first | exact hB.setCell (by simp <;> omega) _ | exact (hB.setCell (by simp <;> omega) _).drew⟩
            · intro j
              by_cases e : j = i + k
              · subst e; rw [upd_same]; exact ⟨b9, b10⟩
              · rw [upd_ne _ _ _ _ e]; exact He.out j
            · intro j hj; rw [upd_ne _ _ _ _ (by omega)]; exact Hy.out j hj
            · rw [sumf_upd _ _ _ _ _ (by omega), ← Hwd.out, Int.pow_add]
              simp only [sumf]
              rw [← HyK.out, Int.pow_succ]
              exact mul_add _ _ _ _ _ _ _ _ _ _ _ Ht.out Hsum.out
        · obtain rfl : k = 4 := by omega
          have h3 := M3.out.cell (i + 4) (by omega)
          have hfz := M3.out.frozen (i + 4)
          clear hix
          go_wp2_with fail
          go_roundw
          case measure => simp [intOf]; omega
          case rel =>
            refine ⟨i + 1, upd h (i + 4) cr, by omega, by go_num, ?_, ?_, ?_, M0.out.other _ _ (by simp <;> omega), M1.out.other _ _ (by simp <;> omega), M2.out.other _ _ (by simp <;> omega), M3.out.set _ _, by first | exact hB.setCell (by simp <;> omega) _ | exact (hB.setCell (by simp <;> omega) _).drew⟩
            · intro j
              by_cases e : j = i + 4
              · subst e; rw [upd_same]; exact ⟨cr0, cr1⟩
              · rw [upd_ne _ _ _ _ e]; exact He.out j
            · intro j hj; rw [upd_ne _ _ _ _ (by omega)]; exact Hy.out j (by omega)
            · rw [show i + 1 + 4 = (i + 4) + 1 by omega]
              have e1 := Ht.out
              rw [Hs.out, sum4 b Hb.out] at e1
              rw [sumf_succ _ (upd h (i + 4) cr) (i + 4), sumf_succ _ (dg 18446744073709551616 a) i, sumf_upd_above _ _ _ _ _ (Nat.le_refl _), upd_same, Int.pow_add 18446744073709551616 i 4, Int.add_mul, ← Hx.out]
              exact e1
    · obtain rfl : i = 4 := by omega
      have hwide := Hs.out
      rw [sum4 a Ha.out] at hwide
      have hlow := e4_of g (fun j _ => Hd.out j)
      have hhigh := e4_of (fun j => g (j + 4)) (fun j _ => Hd.out (j + 4))
      obtain ⟨lw, hlw, _, hlws⟩ := hlow
      obtain ⟨hg, hhg, _, hhgs⟩ := hhigh
      have hsp := sumf_split 18446744073709551616 g 4 4
      rw [show (4 + 4 : Nat) = 8 from rfl] at hsp
      rw [show (4 + 4 : Nat) = 8 from rfl, hsp, hlws, hhgs, p64_4] at hwide
      have hnum : a * b = lw + 115792089237316195423570985008687907853269984665640564039457584007913129639936 * hg := by
        have : ((a * b : Nat) : Int) = ((lw + 115792089237316195423570985008687907853269984665640564039457584007913129639936 * hg : Nat) : Int) := by rw [Int.natCast_mul, ← hwide, Int.natCast_add, Int.natCast_mul]; rfl
        exact Int.ofNat_inj.1 this
      have N0 := Lib.hid (M2.out.alloc (.cells (#[.int .u64 0, .int .u64 0, .int .u64 0, .int .u64 0] : Array Value) 36))
      have N3 := Lib.hid (M3.out.alloc (.cells (#[.int .u64 0, .int .u64 0, .int .u64 0, .int .u64 0] : Array Value) 36))
      have N4 := Lib.hid (Has.new wr (#[.int .u64 0, .int .u64 0, .int .u64 0, .int .u64 0] : Array Value) 36)
      have HB := Lib.hid (hB.alloc hB.size (.cells (#[.int .u64 0, .int .u64 0, .int .u64 0, .int .u64 0] : Array Value) 36))
      have hl3 := M3.out.lt
      have Hnum := Lib.hid hnum; clear hnum
      have Hlws := Lib.hid hlws; clear hlws
      have Hhgs := Lib.hid hhgs; clear hhgs
      clear hwide hsp M0 M1 M2 M3 hB Ha Hb Hs
      rw [show ((4 : Nat) : Int) = 4 from rfl]
      go_wp2_with fail
      obtain ⟨w2, rfl⟩ : ∃ w2 : World, w2 = wr := ⟨_, rfl⟩
      go_loopw [15, 68] (fun u s wr => ∃ (k : Nat) (h : Nat → Int) (cr : Int), k ≤ 4 ∧ s = .int .i64 k ∧ u = .int .u64 cr ∧ 0 ≤ cr ∧ cr < 18446744073709551616 ∧ (∀ j, 0 ≤ h j ∧ h j < 18446744073709551616) ∧ sumf 18446744073709551616 h k + cr * 18446744073709551616 ^ k = sumf 18446744073709551616 g k + 38 * sumf 18446744073709551616 (fun j => g (j + 4)) k ∧ HasN wr (w.heap.size + 1 + 1) 4 36 ∧ Has wr (w.heap.size + 1 + 1 + 1) (row .u64 8 g) 96 ∧ Has wr w2.heap.size (row .u64 4 h) 36 ∧ Below w.heap.size w wr) (fun _ s _ => 4 - (intOf s).toNat)
      case atStart => exact ⟨0, fun _ => 0, 0, by omega, rfl, rfl, by omega, by omega, fun j => by simp, by simp [sumf], N0.out, N3.out, N4.out, HB.out⟩
      case round =>
        clear N0 N3 N4 HB
        obtain ⟨k, h, cr, hk, rfl, rfl, cr0, cr1, hd, hs, m2, m3, m4, hB⟩ := hrel
        have He := Lib.hid hd; clear hd
        have M2 := Lib.hid m2; clear m2
        have M3 := Lib.hid m3; clear m3
        have M4 := Lib.hid m4; clear m4
        have Hs := Lib.hid hs; clear hs
        by_cases hlk : k < 4
        · have h1 := M3.out.cell k (by omega)
          have h2 := M3.out.cell (k + 4) (by omega)
          have h3 := M4.out.cell k hlk
          have hfz := M4.out.frozen k
          have x0 := (Hd.out (k + 4)).1
          have x1 := (Hd.out (k + 4)).2
          have z0 := (Hd.out k).1
          have z1 := (Hd.out k).2
          obtain ⟨x, hx⟩ : ∃ x, x = g (k + 4) := ⟨_, rfl⟩
          obtain ⟨wd, hwd⟩ : ∃ z, z = g k := ⟨_, rfl⟩
          rw [← hx] at h2 x0 x1
          rw [← hwd] at h1 z0 z1
          have hm := fun w => mul64 x 38 x0 x1 (by omega) (by omega) w
          obtain ⟨hi', lo, s1, c1, s2, c2, e1, e2, e3, e4', e5, e6, b1, b2, b3, b4, b5, b6, b7, b8, b9, b10, b11, b12, b13, b14, hsum⟩ := mul_step x 38 wd cr x0 x1 (by omega) (by omega) z0 z1 cr0 cr1
          have ka := fun w => add64_0 lo wd b3 z0 w
          have kb := fun w => add64_0 s1 cr b5 cr0 w
          rw [e1, e2] at hm
          rw [e3, e4'] at ka
          rw [e5, e6] at kb
          have Hx := Lib.hid hx; clear hx
          have Hwd := Lib.hid hwd; clear hwd
          have Hm := Lib.hid hm; clear hm
          have Hsum := Lib.hid hsum; clear hsum
          clear e1 e2 e3 e4' e5 e6
          go_wp2_with fail
          refine (Hm.out _).mono ?_
          rintro e w3 ⟨rfl, rfl⟩
          go_wp2_with fail
          go_roundw
          case measure => simp [intOf]; omega
          case rel =>
            refine ⟨k + 1, upd h k s2, hi' + c1 + c2, by omega, by go_num, rfl, by omega, b14, ?_, ?_, M2.out.other _ _ (by simp <;> omega), M3.out.other _ _ (by simp <;> omega), M4.out.set _ _, by first | exact hB.setCell (by simp <;> omega) _ | exact (hB.setCell (by simp <;> omega) _).drew⟩
            · intro j
              by_cases e : j = k
              · subst e; rw [upd_same]; exact ⟨b9, b10⟩
              · rw [upd_ne _ _ _ _ e]; exact He.out j
            · simp only [sumf]
              rw [sumf_upd_above _ _ _ _ _ (Nat.le_refl _), upd_same, ← Hx.out, ← Hwd.out, Int.pow_succ]
              exact low_add _ _ _ _ _ _ _ _ _ Hs.out Hsum.out
        · obtain rfl : k = 4 := by omega
          obtain ⟨A', hA', hrow, hsumA⟩ := e4_of h (fun j _ => He.out j)
          have hs4 := Hs.out
          rw [hsumA, Hlws.out, Hhgs.out, p64_4] at hs4
          have m4 := M4.out
          rw [hrow] at m4
          obtain ⟨o', rfl⟩ := Int.eq_ofNat_of_zero_le cr0
          have hf := fun w => fold_any A' o' hA' (by omega) w
          have hres : (A' + o' * 115792089237316195423570985008687907853269984665640564039457584007913129639936) % PP = r := by rw [Hr.out]; exact lh_mod A' o' lw hg (a * b) (by omega) Hnum.out
          rw [hres] at hf
          have Q4 := Lib.hid m4; clear m4 M4
          have Hf := Lib.hid hf; clear hf
          clear hrow hsumA hs4 hA' hres hlw hhg
          go_wp2_with (refine wpList_load_row rfl 36 _ rfl (w2.heap.size) rfl 36 (e4 A') (0, 0) _ Q4.out Try.underlying36 rfl (by rw [e4_size]; kernel_rfl) ?_)
          refine (Hf.out _).mono ?_
          rintro e w4 ⟨m, hm, hmr, rfl, b1⟩
          obtain ⟨Z, hZ, mz⟩ := M2.out.call b1
          have HBB := Lib.hid (below_setRow (held_next hB b1) (w.heap.size + 1 + 1) (e4 m) (by omega))
          have Mz := Lib.hid mz; clear mz
          have HZ := Lib.hid hZ; clear hZ
          have Hm := Lib.hid hm; clear hm
          have Hmr := Lib.hid hmr; clear hmr
          clear b1
          go_wp2_with (refine wpList_store_row rfl 36 _ _ rfl (w.heap.size + 1 + 1) _ rfl rfl 36 Z Mz.out (by rw [e4_size]; kernel_rfl) (HZ.out.trans (e4_size _).symm) (row_one _ _ _) ?_)
          exact bodyPost_ret (v := .agg (e4 m)) (results_cell_row (t := 36) (by rfl) _ _ (w.heap.size + 1 + 1) _ _ _ rfl (Mz.out.setRow _) Try.underlying36 rfl (by rw [e4_size]; kernel_rfl)) rfl ⟨m, Hm.out, Hmr.out, rfl, HBB.out⟩
end Go.Proofs.Ytjiagjonlcadiaa
end
section
namespace Go.Proofs.Ytjiagjonlcadiaa
open Go.RowKit Go.Lib

/-- word q, behind the bytes from k on -/
def ofw (n k q : Nat) : Nat := if k ≤ 8 * q then n / 256 ^ (8 * q) % 256 ^ 8 else if 8 * q + 8 ≤ k then 0 else n / 256 ^ k % 256 ^ (8 * q + 8 - k)
theorem ofw_word (n k q : Nat) (h1 : 8 * q ≤ k) (h2 : k ≤ 8 * q + 8) : ofw n k q = n / 256 ^ k % 256 ^ (8 * q + 8 - k) := by
  unfold ofw
  split
  · have : k = 8 * q := by omega
    subst this; rw [show 8 * q + 8 - 8 * q = 8 by omega]
  · split
    · have : k = 8 * q + 8 := by omega
      subst this; simp [Nat.mod_one]
    · rfl
theorem ofw_other (n k q : Nat) (h : q ≠ k / 8) : ofw n (k + 1) q = ofw n k q := by
  unfold ofw
  by_cases h1 : k + 1 ≤ 8 * q
  · rw [if_pos h1, if_pos (by omega)]
  · rw [if_neg h1, if_neg (show ¬ k ≤ 8 * q by omega), if_pos (show 8 * q + 8 ≤ k + 1 by omega), if_pos (show 8 * q + 8 ≤ k by omega)]
theorem ofw_step (n k : Nat) : ofw n k (k / 8) = ofw n (k + 1) (k / 8) * 256 + n / 256 ^ k % 256 := by
  rw [ofw_word n k (k / 8) (by omega) (by omega), ofw_word n (k + 1) (k / 8) (by omega) (by omega)]
  have e : 8 * (k / 8) + 8 - k = (8 * (k / 8) + 8 - (k + 1)) + 1 := by omega
  rw [e, Nat.pow_succ 256 (8 * (k / 8) + 8 - (k + 1)), Nat.mul_comm, Nat.mod_mul, Nat.pow_succ 256 k, ← Nat.div_div_eq_div_mul]
  omega
theorem ofw_lt (n k : Nat) : ofw n (k + 1) (k / 8) < 72057594037927936 := by
  rw [ofw_word n (k + 1) (k / 8) (by omega) (by omega)]
  have h1 : n / 256 ^ (k + 1) % 256 ^ (8 * (k / 8) + 8 - (k + 1)) < 256 ^ (8 * (k / 8) + 8 - (k + 1)) := Nat.mod_lt _ (Nat.pow_pos (by decide))
  have h2 : 256 ^ (8 * (k / 8) + 8 - (k + 1)) ≤ 256 ^ 7 := Nat.pow_le_pow_right (by decide) (by omega)
  have h3 : (256 : Nat) ^ 7 = 72057594037927936 := by decide
  omega
theorem or_byte (a b : Nat) (ha : a < 72057594037927936) (hb : b < 256) : bits .or .u64 ((a : Int) * 256) (b : Int) = ((a * 256 + b : Nat) : Int) := by
  have h := bits_or_u64_nat (a * 256) b (by omega) (by omega)
  have e : a * 256 ||| b = a * 256 + b := by
    have := Nat.shiftLeft_add_eq_or_of_lt (i := 8) (b := b) (by omega) a
    rw [Nat.shiftLeft_eq] at this
    exact this.symm
  rw [e] at h
  rw [← h, Int.natCast_mul]; rfl
theorem and_top (a : Nat) (ha : a < 18446744073709551616) : bits .and .u64 (a : Int) 9223372036854775807 = ((a % 9223372036854775808 : Nat) : Int) := by
  have h := bits_and_u64_nat a 9223372036854775807 ha (by omega)
  have e : a &&& 9223372036854775807 = a % 9223372036854775808 := Nat.and_two_pow_sub_one_eq_mod a 63
  rw [e] at h
  exact h
theorem ofw_0 (n q : Nat) : (ofw n 0 q : Int) = dg 18446744073709551616 n q := by
  unfold ofw dg
  rw [if_pos (by omega), Nat.pow_mul, show (256 : Nat) ^ 8 = 18446744073709551616 by decide]
theorem top_row (n : Nat) (hn : n < 115792089237316195423570985008687907853269984665640564039457584007913129639936) (h : Nat → Int) (hh : ∀ q, q < 4 → h q = dg 18446744073709551616 n q) (t : Nat) (ht : h 3 = t) : row .u64 4 (upd h 3 ((t % 9223372036854775808 : Nat) : Int)) = e4 (n % 57896044618658097711785492504343953926634992332820282019728792003956564819968) := by
  have h3 : (t : Int) = ((n / 18446744073709551616 ^ 3 % 18446744073709551616 : Nat) : Int) := by rw [← ht, hh 3 (by omega)]; rfl
  have hp : (18446744073709551616 : Nat) ^ 3 = 6277101735386680763835789423207666416102355444464034512896 := by decide +kernel
  refine row_ext _ _ _ _ (sumf_uniq 18446744073709551616 _ _ 4 (fun i hi => ?_) ?_)
  · by_cases e : i = 3
    · subst e; rw [upd_same]; omega
    · rw [upd_ne _ _ _ _ e, hh i hi]; exact ⟨w_nn n i, w_lt n i⟩
  · show sumf 18446744073709551616 _ 4 = _
    rw [sumf_upd _ _ _ _ _ (by omega), sumf_congr _ h (dg 18446744073709551616 n) 4 hh, sum4 n hn, ht]
    have hp3 : (18446744073709551616 : Int) ^ 3 = 6277101735386680763835789423207666416102355444464034512896 := by decide +kernel
    rw [hp] at h3
    rw [hp3]
    omega

set_option maxRecDepth 100000 in
set_option maxHeartbeats 2000000 in
theorem of_any (n : Nat) (hn : n < 115792089237316195423570985008687907853269984665640564039457584007913129639936) (w : World) :
    Calls Try.prog 30 #[.agg (k32 n)] w fun e w' => e = .returned (.agg (e4 (n % 57896044618658097711785492504343953926634992332820282019728792003956564819968))) ∧ Below w.heap.size w w' := by
  have HT := Lib.hid (top_row n hn); clear hn
  obtain ⟨r, hr⟩ : ∃ r, r = n % 57896044618658097711785492504343953926634992332820282019728792003956564819968 := ⟨_, rfl⟩
  rw [← hr] at HT ⊢
  clear hr
  go_enter Try.func30, Try.ntmps30
  go_wp2_with fail
  go_loopw [3] (fun i wr => ∃ (k : Nat) (h : Nat → Int), k ≤ 32 ∧ i = .int .i64 ((k : Int) - 1) ∧ (∀ q, q < 4 → h q = (ofw n k q : Int)) ∧ Has wr w.heap.size (k32 n) 24 ∧ Has wr (w.heap.size + 1) (row .u64 4 h) 36 ∧ Below w.heap.size w wr) (fun i _ => (intOf i + 1).toNat)
  case atStart =>
    refine ⟨32, fun _ => 0, by omega, rfl, fun q hq => ?_, (Has.new _ _ _).alloc _, Has.new1 _ _ _ _, below_2 _ _ _⟩
    unfold ofw
    rw [if_neg (by omega), if_pos (by omega)]; rfl
  case round =>
    obtain ⟨k, h, hk, rfl, hh, m0, m1, hB⟩ := hrel
    have M0 := Lib.hid m0; clear m0
    have M1 := Lib.hid m1; clear m1
    have Hh := Lib.hid hh; clear hh
    by_cases hlt : 0 < k
    · obtain ⟨k, rfl⟩ : ∃ j, k = j + 1 := ⟨k - 1, by omega⟩
      rw [show (((k + 1 : Nat) : Int) - 1) = (k : Int) by omega]
      have h1 := M0.out.cell k (by omega)
      have h2 := M1.out.cell (k / 8) (by omega)
      have hfz := M1.out.frozen (k / 8)
      rw [Hh.out (k / 8) (by omega)] at h2
      have x1 := ofw_lt n k
      have hst := ofw_step n k
      obtain ⟨x, hx⟩ : ∃ x, x = ofw n (k + 1) (k / 8) := ⟨_, rfl⟩
      obtain ⟨y, hy⟩ : ∃ y, y = n / 256 ^ k % 256 := ⟨_, rfl⟩
      have y1 : y < 256 := by rw [hy]; exact Nat.mod_lt _ (by decide)
      rw [show dg 256 n k = ((n / 256 ^ k % 256 : Nat) : Int) from rfl, ← hy] at h1
      rw [← hx] at h2 x1 hst
      rw [← hy] at hst
      have hor := or_byte x y x1 y1
      have k2 : (0 : Int) ≤ (k : Int) / 8 := by omega
      have k3 : (k : Int) / 8 < 4 := by omega
      have Hx := Lib.hid hx; clear hx
      have Hy := Lib.hid hy; clear hy
      have Hst := Lib.hid hst; clear hst
      go_wp2_with fail
      go_region
      go_wp2_with fail
      go_roundw
      case measure => simp [intOf]
      case rel =>
        refine ⟨k, upd h (k / 8) ((x : Int) * 256 + y), by omega, rfl, ?_, M0.out.other _ _ (by simp <;> omega), M1.out.set _ _, (hB.setCell (by simp <;> omega) _).drew⟩
        intro q hq
        by_cases e : q = k / 8
        · subst e; rw [upd_same, Hst.out, Int.natCast_add, Int.natCast_mul]; rfl
        · rw [upd_ne _ _ _ _ e, ← ofw_other n k q e]; exact Hh.out q hq
    · obtain rfl : k = 0 := by omega
      have h2 := M1.out.cell 3 (by omega)
      have hfz := M1.out.frozen 3
      have h0 : ∀ q, q < 4 → h q = dg 18446744073709551616 n q := fun q hq => (Hh.out q hq).trans (ofw_0 n q)
      have z1 : ofw n 0 3 < 18446744073709551616 := by
        have := w_lt n 3
        rw [← ofw_0] at this; omega
      rw [Hh.out 3 (by omega)] at h2
      obtain ⟨t, ht⟩ : ∃ t, t = ofw n 0 3 := ⟨_, rfl⟩
      rw [← ht] at h2 z1
      have hand := and_top t z1
      have hrow := HT.out h h0 t (by rw [ht]; exact Hh.out 3 (by omega))
      have m1 := M1.out.set 3 ((t % 9223372036854775808 : Nat) : Int)
      rw [hrow] at m1
      have hB2 := hB.setCell (p := ⟨w.heap.size + 1, 3, none⟩) (show w.heap.size ≤ w.heap.size + 1 by omega) (.int .u64 ((t % 9223372036854775808 : Nat) : Int))
      obtain ⟨u, hu⟩ : ∃ u : Int, u = ((t % 9223372036854775808 : Nat) : Int) := ⟨_, rfl⟩
      rw [← hu] at hand m1 hB2
      have HBB := Lib.hid (below_setRow hB2 (w.heap.size + 1) (e4 r) (by omega))
      have Q1 := Lib.hid m1; clear m1
      have Q2 := Lib.hid (Q1.out.setRow (e4 r))
      clear hrow hu ht h0 hB2 M1
      go_wp2_with (first | (refine wpList_load_row rfl 36 _ rfl (w.heap.size + 1) rfl 36 (e4 r) (0, 0) _ Q1.out Try.underlying36 rfl (by rw [e4_size]; kernel_rfl) ?_) | (refine wpList_store_row rfl 36 _ _ rfl (w.heap.size + 1) _ rfl rfl 36 (e4 r) Q1.out (by rw [e4_size]; kernel_rfl) rfl (row_one _ _ _) ?_))
      exact bodyPost_ret (v := .agg (e4 r)) (results_cell_row (t := 36) (by rfl) _ _ (w.heap.size + 1) _ _ _ rfl Q2.out Try.underlying36 rfl (by rw [e4_size]; kernel_rfl)) rfl ⟨rfl, HBB.out⟩
end Go.Proofs.Ytjiagjonlcadiaa
end
section
namespace Go.Proofs.Ytjiagjonlcadiaa
open Go.RowKit Go.Lib

set_option maxRecDepth 100000 in
set_option maxHeartbeats 1000000 in
theorem fold_0 (n : Nat) (w : World) : Calls Try.prog 77 #[.agg (e4 n), .int .u64 (0 : Nat)] w fun e w' => e = .returned (.agg (e4 n)) ∧ Below w.heap.size w w' := by
  go_enter Try.func77, Try.ntmps77
  have M0 := Lib.hid ((Has.new w (e4 n) 36).alloc (.cells (#[.int .u64 0, .int .u64 0, .int .u64 0, .int .u64 0] : Array Value) 36))
  obtain ⟨Z, hZ, mz⟩ := HasN.new1 w (.cells (e4 n) 36) (#[.int .u64 0, .int .u64 0, .int .u64 0, .int .u64 0] : Array Value) 36 4 rfl
  have HBB := Lib.hid (below_setRow (below_2 w (.cells (e4 n) 36) (.cells (#[.int .u64 0, .int .u64 0, .int .u64 0, .int .u64 0] : Array Value) 36)) (w.heap.size + 1) (e4 n) (by omega))
  have Mz := Lib.hid mz; clear mz
  have HZ := Lib.hid hZ; clear hZ
  go_wp2_with fail
  refine wp_loop_rounds 1 ?_
  rw [rounds_succ]
  go_wp2_with (first | (refine wpList_load_row rfl 36 _ rfl (w.heap.size) rfl 36 (e4 n) (0, 0) _ M0.out Try.underlying36 rfl (by rw [e4_size]; kernel_rfl) ?_) | (refine wpList_store_row rfl 36 _ _ rfl (w.heap.size + 1) _ rfl rfl 36 Z Mz.out (by rw [e4_size]; kernel_rfl) (HZ.out.trans (e4_size _).symm) (row_one _ _ _) ?_))
  exact bodyPost_ret (v := .agg (e4 n)) (results_cell_row (t := 36) (by rfl) _ _ (w.heap.size + 1) _ _ _ rfl (Mz.out.setRow _) Try.underlying36 rfl (by rw [e4_size]; kernel_rfl)) rfl ⟨rfl, HBB.out⟩

set_option maxRecDepth 100000 in
set_option maxHeartbeats 2000000 in
theorem plus_exact (a b : Nat) (ha : a < 115792089237316195423570985008687907853269984665640564039457584007913129639936) (hb : b < 115792089237316195423570985008687907853269984665640564039457584007913129639936) (hab : a + b < 115792089237316195423570985008687907853269984665640564039457584007913129639936) (w : World) :
    Calls Try.prog 37 #[.agg (e4 a), .agg (e4 b)] w fun e w' => e = .returned (.agg (e4 (a + b))) ∧ Below w.heap.size w w' := by
  obtain ⟨r, hr⟩ : ∃ r, r = a + b := ⟨_, rfl⟩
  rw [← hr] at hab ⊢
  have Ha := Lib.hid ha; clear ha
  have Hb := Lib.hid hb; clear hb
  have Hr := Lib.hid hr; clear hr
  have Hab := Lib.hid hab; clear hab
  go_enter Try.func37, Try.ntmps37
  go_wp2_with fail
  go_loopw [5, 7] (fun s i wr => ∃ (k : Nat) (h : Nat → Int) (c : Int), k ≤ 4 ∧ i = .int .i64 k ∧ s = .int .u64 c ∧ 0 ≤ c ∧ c ≤ 1 ∧ (∀ j, j < k → 0 ≤ h j ∧ h j < 18446744073709551616) ∧ (∀ j, k ≤ j → h j = dg 18446744073709551616 a j) ∧ sumf 18446744073709551616 h k + c * 18446744073709551616 ^ k = sumf 18446744073709551616 (dg 18446744073709551616 a) k + sumf 18446744073709551616 (dg 18446744073709551616 b) k ∧ Has wr w.heap.size (row .u64 4 h) 36 ∧ Has wr (w.heap.size + 1) (e4 b) 36 ∧ HasN wr (w.heap.size + 1 + 1) 4 36 ∧ Below w.heap.size w wr) (fun _ i _ => 4 - (intOf i).toNat)
  case atStart => exact ⟨0, dg 18446744073709551616 a, 0, by omega, rfl, rfl, by omega, by omega, fun j hj => by omega, fun _ _ => rfl, by simp [sumf], ((Has.new _ _ _).alloc _).alloc _, (Has.new1 _ _ _ _).alloc _, HasN.new2 _ _ _ _ _ 4 rfl, below_3 _ _ _ _⟩
  case round =>
    obtain ⟨k, h, c, hk, rfl, rfl, c0, c1, hd, hg, hs, m0, m1, m2, hB⟩ := hrel
    have M0 := Lib.hid m0; clear m0
    have M1 := Lib.hid m1; clear m1
    have M2 := Lib.hid m2; clear m2
    have Hd := Lib.hid hd; clear hd
    have Hg := Lib.hid hg; clear hg
    have Hs := Lib.hid hs; clear hs
    by_cases hlt : k < 4
    · have h1 := M0.out.cell k hlt
      have h2 := M1.out.cell k hlt
      have hfz := M0.out.frozen k
      have x0 := w_nn a k
      have x1 := w_lt a k
      have y0 := w_nn b k
      have y1 := w_lt b k
      rw [Hg.out k (Nat.le_refl _)] at h1
      obtain ⟨x, hx⟩ : ∃ x, x = dg 18446744073709551616 a k := ⟨_, rfl⟩
      obtain ⟨y, hy⟩ : ∃ y, y = dg 18446744073709551616 b k := ⟨_, rfl⟩
      rw [← hx] at h1 x0 x1
      rw [← hy] at h2 y0 y1
      have ka := fun w => add64 x y c x0 y0 c0 c1 w
      obtain ⟨s, hss⟩ : ∃ s, s = (x + y + c) % 18446744073709551616 := ⟨_, rfl⟩
      obtain ⟨d, hdd⟩ : ∃ d, d = (x + y + c) / 18446744073709551616 := ⟨_, rfl⟩
      rw [← hss, ← hdd] at ka
      have s0 : 0 ≤ s := by omega
      have s1 : s < 18446744073709551616 := by omega
      have d0 : 0 ≤ d := by omega
      have d1 : d ≤ 1 := by omega
      have hsum : x + y + c = s + 18446744073709551616 * d := by omega
      have Hx := Lib.hid hx; clear hx
      have Hy := Lib.hid hy; clear hy
      have Hsum := Lib.hid hsum; clear hsum
      clear hss hdd
      go_wp2_with fail
      go_region
      go_wp2_with fail
      go_roundw
      case measure => simp [intOf]; omega
      case rel =>
        refine ⟨k + 1, upd h k s, d, by omega, by go_num, rfl, d0, d1, ?_, ?_, ?_, M0.out.set _ _, M1.out.other _ _ (by simp <;> omega), M2.out.other _ _ (by simp <;> omega), by first | exact hB.setCell (Nat.le_refl _) _ | exact (hB.setCell (Nat.le_refl _) _).drew⟩
        · intro j hj
          by_cases e : j = k
          · subst e; rw [upd_same]; exact ⟨s0, s1⟩
          · rw [upd_ne _ _ _ _ e]; exact Hd.out j (by omega)
        · intro j hj; rw [upd_ne _ _ _ _ (by omega)]; exact Hg.out j (by omega)
        · simp only [sumf]
          rw [sumf_upd_above _ _ _ _ _ (Nat.le_refl _), upd_same, ← Hx.out, ← Hy.out, Int.pow_succ]
          exact add_step _ _ _ _ _ _ _ _ _ Hs.out Hsum.out
    · obtain rfl : k = 4 := by omega
      obtain ⟨A', hA', hrow, hsum⟩ := e4_of h Hd.out
      have hs4 := Hs.out
      rw [hsum, sum4 a Ha.out, sum4 b Hb.out, p64_4] at hs4
      have m0 := M0.out
      rw [hrow] at m0
      obtain ⟨o', rfl⟩ := Int.eq_ofNat_of_zero_le c0
      have ho : o' = 0 := by have := Hr.out; have := Hab.out; omega
      subst ho
      have hf := fun w => fold_0 A' w
      rw [show A' = r by rw [Hr.out]; omega] at hf m0
      have M0 := Lib.hid m0; clear m0
      have Hf := Lib.hid hf; clear hf
      clear hrow hsum hs4 hA'
      go_wp2_with (refine wpList_load_row rfl 36 _ rfl (w.heap.size) rfl 36 (e4 r) (0, 0) _ M0.out Try.underlying36 rfl (by rw [e4_size]; kernel_rfl) ?_)
      refine (Hf.out _).mono ?_
      rintro e w1 ⟨rfl, b1⟩
      obtain ⟨Z, hZ, mz⟩ := M2.out.call b1
      have HBB := Lib.hid (below_setRow (held_next hB b1) (w.heap.size + 1 + 1) (e4 r) (by omega))
      have Mz := Lib.hid mz; clear mz
      have HZ := Lib.hid hZ; clear hZ
      clear b1
      go_wp2_with (refine wpList_store_row rfl 36 _ _ rfl (w.heap.size + 1 + 1) _ rfl rfl 36 Z Mz.out (by rw [e4_size]; kernel_rfl) (HZ.out.trans (e4_size _).symm) (row_one _ _ _) ?_)
      exact bodyPost_ret (v := .agg (e4 r)) (results_cell_row (t := 36) (by rfl) _ _ (w.heap.size + 1 + 1) _ _ _ rfl (Mz.out.setRow _) Try.underlying36 rfl (by rw [e4_size]; kernel_rfl)) rfl ⟨rfl, HBB.out⟩
end Go.Proofs.Ytjiagjonlcadiaa
end
