/- Plain laws of residues modulo the prime: powers, quotients. -/
import Derived.Test.YtjiagjonlcadiaaNum
import Derived.Test.YtjiagjonlcadiaaRefG
namespace Go.Proofs.Ytjiagjonlcadiaa

theorem pwm_add (a e f : Nat) : pwm a (e + f) = pwm a e * pwm a f % PP := by
  unfold pwm; rw [Nat.pow_add, Nat.mul_mod]
theorem pwm_succ (a e : Nat) : pwm a (e + 1) = pwm a e * a % PP := by
  unfold pwm; rw [Nat.pow_succ, Nat.mod_mul_mod]
theorem pwm_pwm (a e f : Nat) : pwm (pwm a e) f = pwm a (e * f) := by
  unfold pwm; rw [← Nat.pow_mod, Nat.pow_mul]
theorem pwm_mod (a e : Nat) : pwm (a % PP) e = pwm a e := by
  unfold pwm; rw [← Nat.pow_mod]
theorem pwm_mulbase (a b e : Nat) : pwm (a * b) e = pwm a e * pwm b e % PP := by
  unfold pwm; rw [Nat.mul_pow, Nat.mul_mod]
theorem pwm_zero (a : Nat) : pwm a 0 = 1 := by
  unfold pwm; rw [Nat.pow_zero]; exact Nat.mod_eq_of_lt (by have := PP_val; omega)
theorem pwm_one (a : Nat) : pwm a 1 = a % PP := by unfold pwm; rw [Nat.pow_one]
theorem gen_PP : Nm.Gen PP 2 := Nm.gen_P
theorem pr_PP : Nm.Pr PP := Nm.pr_P
theorem little (a : Nat) (ha : a % PP ≠ 0) : pwm a (PP - 1) = 1 := gen_PP.little a ha
theorem over_undoes (u v : Nat) (hv : v % PP ≠ 0) : u * pwm v (PP - 2) % PP * v % PP = u % PP := by
  have h : pwm v (PP - 2) * v % PP = 1 := by
    rw [← pwm_succ]
    have e : PP - 2 + 1 = PP - 1 := by have := PP_val; omega
    rw [e]; exact little v hv
  rw [Nat.mod_mul_mod, Nat.mul_assoc, ← Nat.mul_mod_mod, h, Nat.mul_one]
theorem no_zero (a b : Nat) (h : a * b % PP = 0) : a % PP = 0 ∨ b % PP = 0 := by
  rcases pr_PP.2 a b (Nat.dvd_of_mod_eq_zero h) with h | h
  · exact .inl (Nat.mod_eq_zero_of_dvd h)
  · exact .inr (Nat.mod_eq_zero_of_dvd h)
/-- equal squares: equal, or one and the other's opposite -/
theorem sq_eq (x y : Nat) (hx : x < PP) (hy : y < PP) (h : x * x % PP = y * y % PP) : x = y ∨ (x + y) % PP = 0 := by
  by_cases hxy : x ≤ y
  · obtain ⟨d, rfl⟩ : ∃ d, y = x + d := ⟨y - x, by omega⟩
    have e : (x + d) * (x + d) = x * x + d * (x + (x + d)) := by grind
    rw [e] at h
    have h2 : d * (x + (x + d)) % PP = 0 := by
      have h1 := Nat.div_add_mod (x * x) PP
      have h3 := Nat.div_add_mod (x * x + d * (x + (x + d))) PP
      rw [← h] at h3
      have : PP * ((x * x + d * (x + (x + d))) / PP) = PP * (x * x / PP) + d * (x + (x + d)) := by omega
      have hd : PP ∣ d * (x + (x + d)) := by
        refine (Nat.dvd_add_right (Nat.dvd_mul_right PP (x * x / PP))).1 ?_
        rw [← this]; exact Nat.dvd_mul_right _ _
      exact Nat.mod_eq_zero_of_dvd hd
    rcases no_zero _ _ h2 with h4 | h4
    · rw [Nat.mod_eq_of_lt (by omega)] at h4; left; omega
    · exact .inr h4
  · obtain ⟨d, rfl⟩ : ∃ d, x = y + d := ⟨x - y, by omega⟩
    have e : (y + d) * (y + d) = y * y + d * (y + (y + d)) := by grind
    rw [e] at h
    have h2 : d * (y + (y + d)) % PP = 0 := by
      have h1 := Nat.div_add_mod (y * y) PP
      have h3 := Nat.div_add_mod (y * y + d * (y + (y + d))) PP
      rw [h] at h3
      have : PP * ((y * y + d * (y + (y + d))) / PP) = PP * (y * y / PP) + d * (y + (y + d)) := by omega
      have hd : PP ∣ d * (y + (y + d)) := by
        refine (Nat.dvd_add_right (Nat.dvd_mul_right PP (y * y / PP))).1 ?_
        rw [← this]; exact Nat.dvd_mul_right _ _
      exact Nat.mod_eq_zero_of_dvd hd
    rcases no_zero _ _ h2 with h4 | h4
    · rw [Nat.mod_eq_of_lt (by omega)] at h4; left; omega
    · right; rw [Nat.add_comm]; exact h4
theorem mo_add_l (x x' y : Nat) (h : x % PP = x' % PP) : (x + y) % PP = (x' + y) % PP := by rw [Nat.add_mod, h, ← Nat.add_mod]
theorem mo_add_r (x y y' : Nat) (h : y % PP = y' % PP) : (x + y) % PP = (x + y') % PP := by rw [Nat.add_mod, h, ← Nat.add_mod]
theorem mo_mul_l (x x' y : Nat) (h : x % PP = x' % PP) : (x * y) % PP = (x' * y) % PP := by rw [Nat.mul_mod, h, ← Nat.mul_mod]
theorem mo_mul_r (x y y' : Nat) (h : y % PP = y' % PP) : (x * y) % PP = (x * y') % PP := by rw [Nat.mul_mod, h, ← Nat.mul_mod]
end Go.Proofs.Ytjiagjonlcadiaa
