/- Plain number theory, no program in sight: powers modulo a number, primes by Pratt certificates, the little theorem. -/
namespace Go.Proofs.Ytjiagjonlcadiaa.Nm

/-- b to the e, modulo m, by squaring; f: bits enough. -/
def pm (m : Nat) : Nat → Nat → Nat → Nat
  | 0, _, _ => 1 % m
  | f + 1, b, e => if e % 2 = 1 then pm m f (b * b % m) (e / 2) * b % m else pm m f (b * b % m) (e / 2)

theorem pow_mod_base (b m e : Nat) : (b % m) ^ e % m = b ^ e % m := (Nat.pow_mod b e m).symm

theorem pm_eq (m f : Nat) : ∀ b e, e < 2 ^ f → pm m f b e = b ^ e % m := by
  induction f with
  | zero => intro b e h; have : e = 0 := by simpa using h
            subst this; simp [pm]
  | succ f ih =>
    intro b e h
    have h2 : e / 2 < 2 ^ f := by rw [Nat.pow_succ] at h; omega
    have e1 : (b * b % m) ^ (e / 2) % m = b ^ (2 * (e / 2)) % m := by
      rw [pow_mod_base, Nat.pow_mul, Nat.pow_two]
    unfold pm
    rw [ih _ _ h2, e1]
    split
    · rename_i ho
      have : e = 2 * (e / 2) + 1 := by omega
      conv => rhs; rw [this, Nat.pow_succ]
      rw [Nat.mod_mul_mod]
    · rename_i ho
      have : e = 2 * (e / 2) := by omega
      conv => rhs; rw [this]

/-- A prime, by Euclid's lemma. -/
def Pr (q : Nat) : Prop := 1 < q ∧ ∀ a b, q ∣ a * b → q ∣ a ∨ q ∣ b

theorem pr_of_divs {q : Nat} (h1 : 1 < q) (h : ∀ d, d ∣ q → d = 1 ∨ d = q) : Pr q := by
  refine ⟨h1, fun a b hab => ?_⟩
  rcases h (Nat.gcd q a) (Nat.gcd_dvd_left q a) with hg | hg
  · exact Or.inr (Nat.Coprime.dvd_of_dvd_mul_left hg hab)
  · exact Or.inl (hg ▸ Nat.gcd_dvd_right q a)

theorem Pr.divs {q : Nat} (h : Pr q) {d : Nat} (hd : d ∣ q) : d = 1 ∨ d = q := by
  obtain ⟨h1, h⟩ := h
  obtain ⟨e, he⟩ := hd
  have h0 : q ∣ d * e := he ▸ Nat.dvd_refl q
  rcases h d e h0 with hh | hh
  · right; exact Nat.dvd_antisymm ⟨e, he⟩ hh
  · left
    have : e = q := Nat.dvd_antisymm ⟨d, by rw [he, Nat.mul_comm]⟩ hh
    subst this
    have : d * e = 1 * e := by omega
    exact Nat.eq_of_mul_eq_mul_right (by omega) this

/-- No divisor among d, d + 1, .. (so many). -/
def noDiv (n : Nat) : Nat → Nat → Bool
  | 0, _ => true
  | f + 1, d => n % d != 0 && noDiv n f (d + 1)

theorem noDiv_spec (n : Nat) : ∀ f d, noDiv n f d = true → ∀ k, d ≤ k → k < d + f → ¬ k ∣ n := by
  intro f
  induction f with
  | zero => intro d _ k h1 h2; omega
  | succ f ih =>
    intro d h k h1 h2
    simp only [noDiv, Bool.and_eq_true, bne_iff_ne] at h
    by_cases hk : k = d
    · subst hk; intro hd; exact h.1 (Nat.mod_eq_zero_of_dvd hd)
    · exact ih (d + 1) h.2 k (by omega) (by omega)

theorem pr_trial {n f : Nat} (h1 : 1 < n) (hf : n < (f + 2) * (f + 2)) (h : noDiv n f 2 = true) : Pr n := by
  have key := noDiv_spec n f 2 h
  refine pr_of_divs h1 fun d hd => ?_
  obtain ⟨e, he⟩ := hd
  have he0 : 0 < e := by
    rcases Nat.eq_zero_or_pos e with h0 | h0
    · subst h0; omega
    · exact h0
  have hd0 : 0 < d := by
    rcases Nat.eq_zero_or_pos d with h0 | h0
    · subst h0; omega
    · exact h0
  by_cases hd1 : d = 1
  · exact Or.inl hd1
  by_cases he1 : e = 1
  · right; subst he1; omega
  exfalso
  by_cases hdl : d < f + 2
  · exact key d (by omega) (by omega) ⟨e, he⟩
  · by_cases hel : e < f + 2
    · exact key e (by omega) (by omega) ⟨d, by rw [he, Nat.mul_comm]⟩
    · have : (f + 2) * (f + 2) ≤ d * e := Nat.mul_le_mul (by omega) (by omega)
      omega

def prod : List Nat → Nat
  | [] => 1
  | q :: l => q * prod l

theorem exists_factor (l : List Nat) (hl : ∀ q ∈ l, Pr q) (k : Nat) (hk : k ∣ prod l) (h1 : k ≠ 1) : ∃ q ∈ l, q ∣ k := by
  induction l generalizing k with
  | nil => exact absurd (Nat.dvd_one.1 hk) h1
  | cons q l ih =>
    rcases (hl q (by simp)).divs (Nat.gcd_dvd_right k q) with hg | hg
    · have : k ∣ prod l := Nat.Coprime.dvd_of_dvd_mul_left hg hk
      obtain ⟨r, hr, hrk⟩ := ih (fun r hr => hl r (by simp [hr])) k this h1
      exact ⟨r, by simp [hr], hrk⟩
    · exact ⟨q, by simp, hg ▸ Nat.gcd_dvd_left k q⟩

theorem least_of (p : Nat → Prop) (n : Nat) (hn : p n) : ∃ m, p m ∧ ∀ k, k < m → ¬ p k := by
  induction n using Nat.strongRecOn with
  | _ n ih =>
    by_cases h : ∃ k, k < n ∧ p k
    · obtain ⟨k, hk, hpk⟩ := h
      exact ih k hk hpk
    · exact ⟨n, hn, fun k hk hp => h ⟨k, hk, hp⟩⟩

theorem pigeon (N : Nat) : ∀ f : Nat → Nat, (∀ i, i < N → f i < N) → (∀ i j, i < N → j < N → f i = f j → i = j) → ∀ y, y < N → ∃ i, i < N ∧ f i = y := by
  induction N with
  | zero => intro f _ _ y hy; omega
  | succ N ih =>
    intro f hr hi y hy
    have hr' : ∀ i, i < N → (if f i = N then f N else f i) < N := by
      intro i hiN
      split
      · rename_i h
        have h1 := hr N (by omega)
        have h2 : f N ≠ N := fun h3 => by have := hi i N (by omega) (by omega) (by omega); omega
        omega
      · have := hr i (by omega); omega
    have hi' : ∀ i j, i < N → j < N → (if f i = N then f N else f i) = (if f j = N then f N else f j) → i = j := by
      intro i j h1 h2 h
      split at h <;> split at h
      · exact hi i j (by omega) (by omega) (by omega)
      · have := hi N j (by omega) (by omega) h; omega
      · have := hi i N (by omega) (by omega) h; omega
      · exact hi i j (by omega) (by omega) h
    have H := ih (fun i => if f i = N then f N else f i) hr' hi'
    by_cases hv : y = f N
    · exact ⟨N, by omega, hv.symm⟩
    by_cases hyN : y = N
    · subst hyN
      have hfN : f y < y := by have := hr y (by omega); omega
      obtain ⟨i, hiN, he⟩ := H (f y) hfN
      split at he
      · exact ⟨i, by omega, by assumption⟩
      · have := hi i y (by omega) (by omega) he; omega
    · obtain ⟨i, hiN, he⟩ := H y (by omega)
      split at he
      · exact absurd he.symm hv
      · exact ⟨i, by omega, he⟩

theorem mod_one_of {n x y : Nat} (h : x % n = 1) (h' : (x * y) % n = 1) : y % n = 1 := by
  have : (x % n * y) % n = 1 := by rw [Nat.mod_mul_mod]; exact h'
  rw [h, Nat.one_mul] at this
  exact this

/-- What Lucas's test gives: the powers of g are all that there is. -/
structure Gen (n g : Nat) : Prop where
  one : 1 < n
  flt : g ^ (n - 1) % n = 1
  all : ∀ a, 0 < a → a < n → ∃ i, i < n - 1 ∧ g ^ i % n = a

theorem lucas {n g : Nat} (l : List Nat) (h1 : 1 < n) (hl : ∀ q ∈ l, Pr q) (hp : prod l = n - 1) (hg : g ^ (n - 1) % n = 1)
    (hq : ∀ q ∈ l, g ^ ((n - 1) / q) % n ≠ 1) : Gen n g := by
  -- the order
  obtain ⟨m, ⟨hm0, hm1⟩, hmin⟩ := least_of (fun m => 0 < m ∧ g ^ m % n = 1) (n - 1) ⟨by omega, hg⟩
  have hpowmul : ∀ k, g ^ (m * k) % n = 1 := by
    intro k
    rw [Nat.pow_mul, Nat.pow_mod, hm1, Nat.one_pow, Nat.mod_eq_of_lt h1]
  have hdiv : ∀ k, g ^ k % n = 1 → m ∣ k := by
    intro k hk
    have e1 : g ^ k = g ^ (m * (k / m)) * g ^ (k % m) := by rw [← Nat.pow_add, Nat.div_add_mod]
    have e2 : g ^ (k % m) % n = 1 := mod_one_of (hpowmul (k / m)) (by rw [← e1]; exact hk)
    have hlt := Nat.mod_lt k hm0
    by_cases hz : k % m = 0
    · exact Nat.dvd_of_mod_eq_zero hz
    · exact absurd ⟨by omega, e2⟩ (hmin _ hlt)
  have hmn : m = n - 1 := by
    obtain ⟨k, hk⟩ := hdiv _ hg
    by_cases hk1 : k = 1
    · subst hk1; omega
    obtain ⟨q, hql, c, hc⟩ := exists_factor l hl k ⟨m, by rw [hp, hk, Nat.mul_comm]⟩ hk1
    exfalso
    have hq1 := (hl q hql).1
    have : (n - 1) / q = m * c := by
      rw [hk, hc, show m * (q * c) = q * (m * c) by ac_rfl]
      exact Nat.mul_div_cancel_left _ (by omega)
    exact hq q hql (by rw [this]; exact hpowmul c)
  subst hmn
  have hinv : ∀ i, i ≤ n - 1 → (g ^ i * g ^ (n - 1 - i)) % n = 1 := by
    intro i hi
    rw [← Nat.pow_add, show i + (n - 1 - i) = n - 1 by omega]; exact hg
  have hnz : ∀ i, i < n - 1 → 0 < g ^ i % n := by
    intro i hi
    rcases Nat.eq_zero_or_pos (g ^ i % n) with h0 | h0
    · have := hinv i (by omega)
      rw [← Nat.mod_mul_mod, h0, Nat.zero_mul, Nat.zero_mod] at this
      omega
    · exact h0
  have hinj : ∀ i j, i < j → j < n - 1 → g ^ i % n = g ^ j % n → False := by
    intro i j hij hj he
    have h2 : (g ^ j * g ^ (n - 1 - i)) % n = 1 := by
      rw [← Nat.mod_mul_mod, ← he, Nat.mod_mul_mod]; exact hinv i (by omega)
    have e1 : g ^ j * g ^ (n - 1 - i) = g ^ (n - 1) * g ^ (j - i) := by
      rw [← Nat.pow_add, ← Nat.pow_add]; congr 1; omega
    rw [e1] at h2
    exact hmin (j - i) (by omega) ⟨by omega, mod_one_of hg h2⟩
  refine ⟨h1, hg, fun a ha0 han => ?_⟩
  obtain ⟨i, hi, he⟩ := pigeon (n - 1) (fun i => g ^ i % n - 1) (fun i hi => by
      have := hnz i hi; have := Nat.mod_lt (g ^ i) (show 0 < n by omega); omega) (fun i j hi hj h => by
      have h1 := hnz i hi
      have h2 := hnz j hj
      have h3 : g ^ i % n = g ^ j % n := by omega
      rcases Nat.lt_trichotomy i j with hh | hh | hh
      · exact (hinj i j hh hj h3).elim
      · exact hh
      · exact (hinj j i hh hi h3.symm).elim) (a - 1) (by omega)
  exact ⟨i, hi, by have := hnz i hi; omega⟩

theorem Gen.pr {n g : Nat} (h : Gen n g) : Pr n := by
  obtain ⟨h1, hg, hall⟩ := h
  refine ⟨h1, fun a b hab => ?_⟩
  by_cases ha : a % n = 0
  · exact Or.inl (Nat.dvd_of_mod_eq_zero ha)
  right
  obtain ⟨i, hi, he⟩ := hall (a % n) (by omega) (Nat.mod_lt _ (by omega))
  have hb : (g ^ (n - 1 - i) * a) % n = 1 := by
    rw [Nat.mul_comm, ← Nat.mod_mul_mod, ← he, Nat.mod_mul_mod, ← Nat.pow_add, show i + (n - 1 - i) = n - 1 by omega]; exact hg
  have h2 : (g ^ (n - 1 - i) * a * b) % n = 0 := by
    rw [Nat.mul_assoc]; exact Nat.mod_eq_zero_of_dvd (Nat.dvd_trans hab ⟨g ^ (n - 1 - i), by ac_rfl⟩)
  rw [← Nat.mod_mul_mod, hb, Nat.one_mul] at h2
  exact Nat.dvd_of_mod_eq_zero h2

/-- The little theorem. -/
theorem Gen.little {n g : Nat} (h : Gen n g) (a : Nat) (ha : a % n ≠ 0) : a ^ (n - 1) % n = 1 := by
  obtain ⟨h1, hg, hall⟩ := h
  obtain ⟨i, _, he⟩ := hall (a % n) (by omega) (Nat.mod_lt _ (by omega))
  rw [← pow_mod_base, ← he, pow_mod_base, ← Nat.pow_mul, Nat.mul_comm, Nat.pow_mul, ← pow_mod_base, hg, Nat.one_pow, Nat.mod_eq_of_lt h1]

theorem lucas_pm {n g : Nat} (l : List Nat) (h1 : 1 < n) (hn : n < 2 ^ 256) (hl : ∀ q ∈ l, Pr q) (hp : prod l = n - 1) (hg : pm n 256 g (n - 1) = 1)
    (hq : l.all (fun q => pm n 256 g ((n - 1) / q) != 1) = true) : Gen n g := by
  refine lucas l h1 hl hp (by rw [← pm_eq n 256 g (n - 1) (by omega)]; exact hg) fun q hql => ?_
  have := List.all_eq_true.1 hq q hql
  have hlt : (n - 1) / q < 2 ^ 256 := Nat.lt_of_le_of_lt (Nat.div_le_self _ _) (by omega)
  rw [pm_eq n 256 g _ hlt] at this
  simpa using this

theorem pr_2 : Pr 2 := pr_trial (f := 0) (by decide) (by decide) (by decide +kernel)
theorem pr_3 : Pr 3 := pr_trial (f := 0) (by decide) (by decide) (by decide +kernel)
theorem pr_65147 : Pr 65147 := pr_trial (f := 254) (by decide) (by decide) (by decide +kernel)
theorem pr_353 : Pr 353 := pr_trial (f := 17) (by decide) (by decide) (by decide +kernel)
theorem pr_57467 : Pr 57467 := pr_trial (f := 238) (by decide) (by decide) (by decide +kernel)
theorem pr_132049 : Pr 132049 := pr_trial (f := 362) (by decide) (by decide) (by decide +kernel)
theorem pr_1923133 : Pr 1923133 := pr_trial (f := 1385) (by decide) (by decide) (by decide +kernel)
theorem pr_31 : Pr 31 := pr_trial (f := 4) (by decide) (by decide) (by decide +kernel)
theorem pr_107 : Pr 107 := pr_trial (f := 9) (by decide) (by decide) (by decide +kernel)
theorem pr_223 : Pr 223 := pr_trial (f := 13) (by decide) (by decide) (by decide +kernel)
theorem pr_4153 : Pr 4153 := pr_trial (f := 63) (by decide) (by decide) (by decide +kernel)
theorem pr_430751 : Pr 430751 := pr_trial (f := 655) (by decide) (by decide) (by decide +kernel)
theorem gen_31757755568855353 : Gen 31757755568855353 10 := by
  refine lucas_pm [2, 2, 2, 3, 31, 107, 223, 4153, 430751] (by decide) (by decide) ?_ (by decide +kernel) (by decide +kernel) (by decide +kernel)
  intro q hq
  simp only [List.mem_cons, List.not_mem_nil, or_false] at hq
  rcases hq with rfl | rfl | rfl | rfl | rfl | rfl | rfl | rfl | rfl
  · exact pr_2
  · exact pr_2
  · exact pr_2
  · exact pr_3
  · exact pr_31
  · exact pr_107
  · exact pr_223
  · exact pr_4153
  · exact pr_430751
theorem pr_31757755568855353 : Pr 31757755568855353 := gen_31757755568855353.pr
theorem pr_5 : Pr 5 := pr_trial (f := 1) (by decide) (by decide) (by decide +kernel)
theorem pr_75707 : Pr 75707 := pr_trial (f := 274) (by decide) (by decide) (by decide +kernel)
theorem pr_13 : Pr 13 := pr_trial (f := 2) (by decide) (by decide) (by decide +kernel)
theorem pr_2437 : Pr 2437 := pr_trial (f := 48) (by decide) (by decide) (by decide +kernel)
theorem pr_569003 : Pr 569003 := pr_trial (f := 753) (by decide) (by decide) (by decide +kernel)
theorem gen_2773320623 : Gen 2773320623 5 := by
  refine lucas_pm [2, 2437, 569003] (by decide) (by decide) ?_ (by decide +kernel) (by decide +kernel) (by decide +kernel)
  intro q hq
  simp only [List.mem_cons, List.not_mem_nil, or_false] at hq
  rcases hq with rfl | rfl | rfl
  · exact pr_2
  · exact pr_2437
  · exact pr_569003
theorem pr_2773320623 : Pr 2773320623 := gen_2773320623.pr
theorem gen_72106336199 : Gen 72106336199 7 := by
  refine lucas_pm [2, 13, 2773320623] (by decide) (by decide) ?_ (by decide +kernel) (by decide +kernel) (by decide +kernel)
  intro q hq
  simp only [List.mem_cons, List.not_mem_nil, or_false] at hq
  rcases hq with rfl | rfl | rfl
  · exact pr_2
  · exact pr_13
  · exact pr_2773320623
theorem pr_72106336199 : Pr 72106336199 := gen_72106336199.pr
theorem pr_7 : Pr 7 := pr_trial (f := 1) (by decide) (by decide) (by decide +kernel)
theorem pr_19 : Pr 19 := pr_trial (f := 3) (by decide) (by decide) (by decide +kernel)
theorem pr_47 : Pr 47 := pr_trial (f := 5) (by decide) (by decide) (by decide +kernel)
theorem pr_127 : Pr 127 := pr_trial (f := 10) (by decide) (by decide) (by decide +kernel)
theorem pr_103 : Pr 103 := pr_trial (f := 9) (by decide) (by decide) (by decide +kernel)
theorem pr_991 : Pr 991 := pr_trial (f := 30) (by decide) (by decide) (by decide +kernel)
theorem gen_8574133 : Gen 8574133 2 := by
  refine lucas_pm [2, 2, 3, 7, 103, 991] (by decide) (by decide) ?_ (by decide +kernel) (by decide +kernel) (by decide +kernel)
  intro q hq
  simp only [List.mem_cons, List.not_mem_nil, or_false] at hq
  rcases hq with rfl | rfl | rfl | rfl | rfl | rfl
  · exact pr_2
  · exact pr_2
  · exact pr_3
  · exact pr_7
  · exact pr_103
  · exact pr_991
theorem pr_8574133 : Pr 8574133 := gen_8574133.pr
theorem gen_1919519569386763 : Gen 1919519569386763 2 := by
  refine lucas_pm [2, 3, 7, 19, 47, 47, 127, 8574133] (by decide) (by decide) ?_ (by decide +kernel) (by decide +kernel) (by decide +kernel)
  intro q hq
  simp only [List.mem_cons, List.not_mem_nil, or_false] at hq
  rcases hq with rfl | rfl | rfl | rfl | rfl | rfl | rfl | rfl
  · exact pr_2
  · exact pr_3
  · exact pr_7
  · exact pr_19
  · exact pr_47
  · exact pr_47
  · exact pr_127
  · exact pr_8574133
theorem pr_1919519569386763 : Pr 1919519569386763 := gen_1919519569386763.pr
theorem gen_75445702479781427272750846543864801 : Gen 75445702479781427272750846543864801 7 := by
  refine lucas_pm [2, 2, 2, 2, 2, 3, 3, 5, 5, 75707, 72106336199, 1919519569386763] (by decide) (by decide) ?_ (by decide +kernel) (by decide +kernel) (by decide +kernel)
  intro q hq
  simp only [List.mem_cons, List.not_mem_nil, or_false] at hq
  rcases hq with rfl | rfl | rfl | rfl | rfl | rfl | rfl | rfl | rfl | rfl | rfl | rfl
  · exact pr_2
  · exact pr_2
  · exact pr_2
  · exact pr_2
  · exact pr_2
  · exact pr_3
  · exact pr_3
  · exact pr_5
  · exact pr_5
  · exact pr_75707
  · exact pr_72106336199
  · exact pr_1919519569386763
theorem pr_75445702479781427272750846543864801 : Pr 75445702479781427272750846543864801 := gen_75445702479781427272750846543864801.pr
theorem gen_74058212732561358302231226437062788676166966415465897661863160754340907 : Gen 74058212732561358302231226437062788676166966415465897661863160754340907 2 := by
  refine lucas_pm [2, 3, 353, 57467, 132049, 1923133, 31757755568855353, 75445702479781427272750846543864801] (by decide) (by decide) ?_ (by decide +kernel) (by decide +kernel) (by decide +kernel)
  intro q hq
  simp only [List.mem_cons, List.not_mem_nil, or_false] at hq
  rcases hq with rfl | rfl | rfl | rfl | rfl | rfl | rfl | rfl
  · exact pr_2
  · exact pr_3
  · exact pr_353
  · exact pr_57467
  · exact pr_132049
  · exact pr_1923133
  · exact pr_31757755568855353
  · exact pr_75445702479781427272750846543864801
theorem pr_74058212732561358302231226437062788676166966415465897661863160754340907 : Pr 74058212732561358302231226437062788676166966415465897661863160754340907 := gen_74058212732561358302231226437062788676166966415465897661863160754340907.pr
theorem gen_P : Gen 57896044618658097711785492504343953926634992332820282019728792003956564819949 2 := by
  refine lucas_pm [2, 2, 3, 65147, 74058212732561358302231226437062788676166966415465897661863160754340907] (by decide) (by decide) ?_ (by decide +kernel) (by decide +kernel) (by decide +kernel)
  intro q hq
  simp only [List.mem_cons, List.not_mem_nil, or_false] at hq
  rcases hq with rfl | rfl | rfl | rfl | rfl
  · exact pr_2
  · exact pr_2
  · exact pr_3
  · exact pr_65147
  · exact pr_74058212732561358302231226437062788676166966415465897661863160754340907
theorem pr_P : Pr 57896044618658097711785492504343953926634992332820282019728792003956564819949 := gen_P.pr
end Go.Proofs.Ytjiagjonlcadiaa.Nm
