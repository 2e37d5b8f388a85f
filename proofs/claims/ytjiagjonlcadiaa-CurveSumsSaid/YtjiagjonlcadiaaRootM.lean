/- Plain laws of the root modulo the prime. -/
import Derived.Test.YtjiagjonlcadiaaResM
import Derived.Test.YtjiagjonlcadiaaRefI
namespace Go.Proofs.Ytjiagjonlcadiaa

/-- is a number a square: its power to half of the prime less 1 -/
def chi (a : Nat) : Nat := pwm a ((PP - 1) / 2)
theorem chi_sq (a : Nat) (ha : a % PP ≠ 0) : chi a * chi a % PP = 1 := by
  unfold chi
  rw [← pwm_add, show (PP - 1) / 2 + (PP - 1) / 2 = PP - 1 by decide +kernel]
  exact little a ha
theorem one_sq (t : Nat) (ht : t < PP) (h : t * t % PP = 1) : t = 1 ∨ t = PP - 1 := by
  have h1 : (1 : Nat) < PP := by have := PP_val; omega
  have hb : (1 : Nat) * 1 % PP = 1 := Nat.mod_eq_of_lt h1
  rcases sq_eq t 1 ht h1 (h.trans hb.symm) with h2 | h2
  · exact .inl h2
  · right
    by_cases hh : t + 1 < PP
    · rw [Nat.mod_eq_of_lt hh] at h2; omega
    · omega
theorem chi_lt (a : Nat) : chi a < PP := by unfold chi; exact pwm_lt _ _
theorem chi_or (a : Nat) (ha : a % PP ≠ 0) : chi a = 1 ∨ chi a = PP - 1 := one_sq _ (chi_lt a) (chi_sq a ha)
theorem pwm_pm (b e : Nat) (h : e < 2 ^ 256) : pwm b e = Nm.pm PP 256 b e := (Nm.pm_eq PP 256 b e h).symm
theorem rti_e : (PP - 1 % PP) / 2 / 2 + (PP - 1 % PP) / 2 / 2 < 2 ^ 256 := by decide +kernel
theorem rti_pm : Nm.pm PP 256 (2 % PP) ((PP - 1 % PP) / 2 / 2 + (PP - 1 % PP) / 2 / 2) = PP - 1 := by decide +kernel
theorem pw_dbl (x b E r : Nat) (hx : x = pwm b E) (h1 : E + E < 2 ^ 256) (h2 : Nm.pm PP 256 b (E + E) = r) : x * x % PP = r := by
  rw [hx, ← pwm_add, pwm_pm _ _ h1, h2]
theorem rti_def : rti = pwm (2 % PP) ((PP - 1 % PP) / 2 / 2) := by delta rti; exact rfl
theorem rti_sq : rti * rti % PP = PP - 1 := pw_dbl rti (2 % PP) ((PP - 1 % PP) / 2 / 2) (PP - 1) rti_def rti_e rti_pm
theorem mul_four (x y m : Nat) : x * y % m * (x * y % m) % m = (x * x % m) * (y * y % m) % m := by
  rw [← Nat.mul_mod, ← Nat.mul_mod]; congr 1; ac_rfl
theorem neg_mul (a b : Nat) (hb : b < PP) : a * (PP - b) % PP = (PP - a * b % PP) % PP := by
  have h1 := Nat.div_add_mod (a * b) PP
  have h2 : a * b % PP < PP := Nat.mod_lt _ PP_pos
  have e : a * (PP - b) + a * b = a * PP := by rw [← Nat.mul_add]; congr 1; omega
  generalize a * b % PP = m at *
  generalize a * b / PP = q at *
  have hle : q ≤ a := by
    by_cases hq : q ≤ a
    · exact hq
    · have h3 : PP * (a + 1) ≤ PP * q := Nat.mul_le_mul_left _ (by omega)
      have h4 : a * b ≤ a * PP := Nat.mul_le_mul_left _ (by omega)
      rw [Nat.mul_add, Nat.mul_comm PP a] at h3
      have := PP_pos
      omega
  obtain ⟨d, rfl⟩ : ∃ d, a = q + d := ⟨a - q, by omega⟩
  have e2 : (q + d) * PP = PP * q + PP * d := by rw [Nat.mul_comm, Nat.mul_add]
  by_cases hm : m = 0
  · subst hm
    have : (q + d) * (PP - b) = PP * d := by omega
    rw [this, Nat.mul_mod_right, Nat.sub_zero, Nat.mod_self]
  · have hd : 0 < d := by
      rcases Nat.eq_zero_or_pos d with h0 | h0
      · subst h0
        have h5 : (q + 0) * b ≤ (q + 0) * PP := Nat.mul_le_mul_left _ (Nat.le_of_lt hb)
        rw [e2, Nat.mul_zero] at h5
        omega
      · exact h0
    obtain ⟨f, rfl⟩ : ∃ f, d = f + 1 := ⟨d - 1, by omega⟩
    have : (q + (f + 1)) * (PP - b) = PP - m + PP * f := by
      rw [Nat.mul_add PP f 1] at e2; omega
    rw [this, Nat.add_mul_mod_self_left]

/-- the square of the first try: the number times its power to a quarter of the prime less 1 -/
theorem rt1_sq (a : Nat) : rt1 a * rt1 a % PP = a * pwm a ((PP - 1) / 4) % PP := by
  unfold rt1
  rw [← pwm_add, show (PP + 3) / 2 / 2 / 2 + (PP + 3) / 2 / 2 / 2 = (PP - 1) / 4 + 1 by decide +kernel, pwm_succ, Nat.mul_comm]
theorem rtok_of_chi (a : Nat) (ha : a < PP) (h : chi a = 1) : rtok a = true := by
  have h4 : pwm a ((PP - 1) / 4) * pwm a ((PP - 1) / 4) % PP = 1 := by
    rw [← pwm_add, show (PP - 1) / 4 + (PP - 1) / 4 = (PP - 1) / 2 by decide +kernel]; exact h
  have hs := rt1_sq a
  unfold rtok rt2
  rcases one_sq _ (pwm_lt _ _) h4 with h5 | h5
  · rw [h5, Nat.mul_one, Nat.mod_eq_of_lt ha] at hs
    rw [if_pos hs, hs]; exact decide_eq_true rfl
  · rw [h5] at hs
    by_cases hc : rt1 a * rt1 a % PP = a
    · rw [if_pos hc, hc]; exact decide_eq_true rfl
    · rw [if_neg hc]
      have e := mul_four (rt1 a) rti PP
      have h1 : (1 : Nat) < PP := by have := PP_val; omega
      have h6 : rt1 a * rt1 a % PP = (PP - a) % PP := by
        rw [hs, neg_mul a 1 h1, Nat.mul_one, Nat.mod_eq_of_lt ha]
      have h7 : (PP - a) % PP * (PP - 1) % PP = a := by
        rw [neg_mul _ 1 h1, Nat.mul_one, Nat.mod_mod]
        by_cases h0 : a = 0
        · subst h0; rw [Nat.sub_zero, Nat.mod_self, Nat.sub_zero, Nat.mod_self]
        · rw [Nat.mod_eq_of_lt (show PP - a < PP by omega), show PP - (PP - a) = a by omega, Nat.mod_eq_of_lt ha]
      rw [e, h6, rti_sq, h7]; exact decide_eq_true rfl
theorem rtok_zero (a : Nat) (ha : a = 0) : rtok a = true := by
  have h : rt1 a * rt1 a % PP = a := by rw [rt1_sq, ha, Nat.zero_mul, Nat.zero_mod]
  unfold rtok rt2
  rw [if_pos h]; exact decide_eq_true h
theorem chi_of_rtok (a : Nat) (ha : a % PP ≠ 0) (h : rtok a = true) : chi a = 1 := by
  unfold rtok at h
  have h2 : rt2 a * rt2 a % PP = a := of_decide_eq_true h
  have hr : rt2 a % PP ≠ 0 := by
    intro h0
    apply ha
    rw [← h2, Nat.mod_mod, Nat.mul_mod, h0, Nat.zero_mul, Nat.zero_mod]
  unfold chi
  rw [← h2, pwm_mod, pwm_mulbase, ← pwm_add, show (PP - 1) / 2 + (PP - 1) / 2 = PP - 1 by decide +kernel]
  exact little _ hr

theorem rt1_lt (a : Nat) : rt1 a < PP := by unfold rt1; exact pwm_lt _ _
theorem rt2_lt (a : Nat) : rt2 a < PP := by
  unfold rt2
  by_cases h : rt1 a * rt1 a % PP = a
  · rw [if_pos h]; exact rt1_lt a
  · rw [if_neg h]; exact Nat.mod_lt _ PP_pos
theorem neg_neg_mod (x : Nat) (h : x < PP) : (PP - (PP - x) % PP) % PP = x := by
  by_cases h0 : x = 0
  · rw [h0, Nat.sub_zero, Nat.mod_self, Nat.sub_zero, Nat.mod_self]
  · rw [Nat.mod_eq_of_lt (show PP - x < PP by omega), show PP - (PP - x) = x by omega, Nat.mod_eq_of_lt h]
theorem neg_sq (r : Nat) (h : r < PP) : (PP - r) * (PP - r) % PP = r * r % PP := by
  rw [neg_mul _ r h, Nat.mul_comm, neg_mul _ r h]
  exact neg_neg_mod _ (Nat.mod_lt _ PP_pos)
theorem rt3_sq (a : Nat) (h : rtok a = true) : rt3 a * rt3 a % PP = a := by
  have h2 : rt2 a * rt2 a % PP = a := of_decide_eq_true (show decide (rt2 a * rt2 a % PP = a) = true from h)
  unfold rt3
  rw [if_pos h]
  by_cases ho : rt2 a % 2 = 1
  · rw [if_pos ho, neg_sq _ (rt2_lt a), h2]
  · rw [if_neg ho, h2]
theorem PP_odd : PP % 2 = 1 := by decide +kernel
theorem rt3_even (a : Nat) : rt3 a % 2 = 0 := by
  unfold rt3
  have h1 := rt2_lt a
  have h2 := PP_odd
  by_cases h : rtok a = true
  · rw [if_pos h]
    by_cases ho : rt2 a % 2 = 1
    · rw [if_pos ho]; omega
    · rw [if_neg ho]; omega
  · rw [if_neg h]
theorem rt3_lt (a : Nat) : rt3 a < PP := by
  unfold rt3
  have h1 := rt2_lt a
  have h2 := PP_pos
  by_cases h : rtok a = true
  · rw [if_pos h]
    by_cases ho : rt2 a % 2 = 1
    · rw [if_pos ho]; omega
    · rw [if_neg ho]; exact h1
  · rw [if_neg h]; exact h2
theorem chi_mod (a : Nat) : chi (a % PP) = chi a := by unfold chi; exact pwm_mod _ _
theorem chi_mul (a b : Nat) : chi (a * b) = chi a * chi b % PP := by unfold chi; exact pwm_mulbase _ _ _
theorem rtok_sq (u : Nat) : rtok (u * u % PP) = true := by
  by_cases h0 : u % PP = 0
  · exact rtok_zero _ (by rw [Nat.mul_mod, h0, Nat.zero_mul, Nat.zero_mod])
  · exact rtok_of_chi _ (Nat.mod_lt _ PP_pos) (by rw [chi_mod, chi_mul]; exact chi_sq u h0)
theorem rt3_root (u : Nat) : rt3 (u * u % PP) = u % PP ∨ (rt3 (u * u % PP) + u) % PP = 0 := by
  have h := rt3_sq _ (rtok_sq u)
  rcases sq_eq (rt3 (u * u % PP)) (u % PP) (rt3_lt _) (Nat.mod_lt _ PP_pos) (h.trans (Nat.mul_mod u u PP)) with h1 | h1
  · exact .inl h1
  · right; rw [Nat.add_mod_mod] at h1; exact h1
theorem rtok_chi (a : Nat) (ha : a < PP) (h0 : a ≠ 0) : rtok a = decide (chi a = 1) := by
  by_cases h : chi a = 1
  · rw [rtok_of_chi a ha h, decide_eq_true h]
  · rw [decide_eq_false h]
    cases hr : rtok a with
    | false => rfl
    | true => exact absurd (chi_of_rtok a (by rw [Nat.mod_eq_of_lt ha]; exact h0) hr) h
theorem squares_law (x y : Nat) (hx : x < PP) (hy : y < PP) (x0 : x ≠ 0) (y0 : y ≠ 0) : rtok (x * y % PP) = (rtok x == rtok y) := by
  have hxm : x % PP ≠ 0 := by rw [Nat.mod_eq_of_lt hx]; exact x0
  have hym : y % PP ≠ 0 := by rw [Nat.mod_eq_of_lt hy]; exact y0
  have hz : x * y % PP ≠ 0 := fun h => (no_zero x y h).elim hxm hym
  have h1 : (1 : Nat) < PP := by have := PP_val; omega
  have hne : PP - 1 ≠ 1 := by have := PP_val; omega
  rw [rtok_chi _ (Nat.mod_lt _ PP_pos) hz, rtok_chi x hx x0, rtok_chi y hy y0, chi_mod, chi_mul]
  rcases chi_or x hxm with cx | cx <;> rcases chi_or y hym with cy | cy <;> rw [cx, cy]
  · rw [Nat.mul_one, Nat.mod_eq_of_lt h1]; rfl
  · rw [Nat.one_mul, Nat.mod_eq_of_lt (show PP - 1 < PP by omega), decide_eq_false hne, decide_eq_true rfl]; rfl
  · rw [Nat.mul_one, Nat.mod_eq_of_lt (show PP - 1 < PP by omega), decide_eq_false hne, decide_eq_true rfl]; rfl
  · rw [neg_sq 1 h1, Nat.mul_one, Nat.mod_eq_of_lt h1, decide_eq_false hne, decide_eq_true rfl]; rfl
end Go.Proofs.Ytjiagjonlcadiaa
