/- The program's field: power (it to the power 2^250 - 1). -/
import Derived.Test.YtjiagjonlcadiaaFldI
import Derived.Test.YtjiagjonlcadiaaResM
import Derived.Test.YtjiagjonlcadiaaStep
namespace Go.Proofs.Ytjiagjonlcadiaa
open Go.RowKit Go.Lib

theorem pw_go (a x k e m f : Nat) (hx : x % PP = pwm a k) (hm : m % PP = pwm x e) (hf : k * e = f) : m % PP = pwm a f := by
  rw [hm, ← pwm_mod, hx, pwm_pwm, hf]
theorem pw_by (a x y k e m f : Nat) (hx : x % PP = pwm a k) (hy : y % PP = pwm a e) (hm : m % PP = x * y % PP) (hf : k + e = f) : m % PP = pwm a f := by
  rw [hm, Nat.mul_mod, hx, hy, ← pwm_add, hf]
theorem pw_self (a : Nat) : a % PP = pwm a 1 := (pwm_one a).symm

theorem p_five (a m1 m2 m3 m4 : Nat) (h1 : m1 % PP = pwm a 3) (h2 : m2 % PP = pwm m1 5) (h3 : m3 % PP = pwm m2 2) (h4 : m4 % PP = m3 * a % PP) : m4 % PP = pwm a 31 :=
  pw_by a m3 a 30 1 m4 31 (pw_go a m2 15 2 m3 30 (pw_go a m1 3 5 m2 15 h1 h2 rfl) h3 rfl) (pw_self a) h4 rfl
theorem p_fifty (a m6 m7 m8 m5 m9 : Nat) (h6 : m6 % PP = pwm a 1048575) (h5 : m5 % PP = pwm a 1023) (h7 : m7 % PP = pwm m6 1048577) (h8 : m8 % PP = pwm m7 1024) (h9 : m9 % PP = m8 * m5 % PP) : m9 % PP = pwm a 1125899906842623 :=
  pw_by a m8 m5 1125899906841600 1023 m9 _ (pw_go a m7 1099511627775 1024 m8 _ (pw_go a m6 1048575 1048577 m7 _ h6 h7 (by decide +kernel)) h8 (by decide +kernel)) h5 h9 (by decide +kernel)
theorem p_all (a m10 m11 m12 m9 m13 : Nat) (h10 : m10 % PP = pwm a 1267650600228229401496703205375) (h9 : m9 % PP = pwm a 1125899906842623) (h11 : m11 % PP = pwm m10 1267650600228229401496703205377) (h12 : m12 % PP = pwm m11 1125899906842624) (h13 : m13 % PP = m12 * m9 % PP) : m13 % PP = pwm a 1809251394333065553493296640760748560207343510400633813116524750123642650623 :=
  pw_by a m12 m9 1809251394333065553493296640760748560207343510400633813116523624223735808000 1125899906842623 m13 _ (pw_go a m11 1606938044258990275541962092341162602522202993782792835301375 1125899906842624 m12 _ (pw_go a m10 1267650600228229401496703205375 1267650600228229401496703205377 m11 _ h10 h11 (by decide +kernel)) h12 (by decide +kernel)) h9 h13 (by decide +kernel)

theorem grow_1 (x : Nat) (hx : x < 115792089237316195423570985008687907853269984665640564039457584007913129639936) (w : World) : Calls Try.prog 110 #[.agg (e4 x), .int .i64 1] w (ElP (pwm x 3) w) := by
  have h := grow_any x 1 hx (by decide) w
  rw [show 2 ^ 1 + 1 = 3 by decide +kernel] at h
  exact h
theorem grow_2 (x : Nat) (hx : x < 115792089237316195423570985008687907853269984665640564039457584007913129639936) (w : World) : Calls Try.prog 110 #[.agg (e4 x), .int .i64 2] w (ElP (pwm x 5) w) := by
  have h := grow_any x 2 hx (by decide) w
  rw [show 2 ^ 2 + 1 = 5 by decide +kernel] at h
  exact h
theorem grow_5 (x : Nat) (hx : x < 115792089237316195423570985008687907853269984665640564039457584007913129639936) (w : World) : Calls Try.prog 110 #[.agg (e4 x), .int .i64 5] w (ElP (pwm x 33) w) := by
  have h := grow_any x 5 hx (by decide) w
  rw [show 2 ^ 5 + 1 = 33 by decide +kernel] at h
  exact h
theorem grow_10 (x : Nat) (hx : x < 115792089237316195423570985008687907853269984665640564039457584007913129639936) (w : World) : Calls Try.prog 110 #[.agg (e4 x), .int .i64 10] w (ElP (pwm x 1025) w) := by
  have h := grow_any x 10 hx (by decide) w
  rw [show 2 ^ 10 + 1 = 1025 by decide +kernel] at h
  exact h
theorem grow_20 (x : Nat) (hx : x < 115792089237316195423570985008687907853269984665640564039457584007913129639936) (w : World) : Calls Try.prog 110 #[.agg (e4 x), .int .i64 20] w (ElP (pwm x 1048577) w) := by
  have h := grow_any x 20 hx (by decide) w
  rw [show 2 ^ 20 + 1 = 1048577 by decide +kernel] at h
  exact h
theorem grow_50 (x : Nat) (hx : x < 115792089237316195423570985008687907853269984665640564039457584007913129639936) (w : World) : Calls Try.prog 110 #[.agg (e4 x), .int .i64 50] w (ElP (pwm x 1125899906842625) w) := by
  have h := grow_any x 50 hx (by decide) w
  rw [show 2 ^ 50 + 1 = 1125899906842625 by decide +kernel] at h
  exact h
theorem grow_100 (x : Nat) (hx : x < 115792089237316195423570985008687907853269984665640564039457584007913129639936) (w : World) : Calls Try.prog 110 #[.agg (e4 x), .int .i64 100] w (ElP (pwm x 1267650600228229401496703205377) w) := by
  have h := grow_any x 100 hx (by decide) w
  rw [show 2 ^ 100 + 1 = 1267650600228229401496703205377 by decide +kernel] at h
  exact h
theorem squares_1 (x : Nat) (hx : x < 115792089237316195423570985008687907853269984665640564039457584007913129639936) (w : World) : Calls Try.prog 83 #[.agg (e4 x), .int .i64 1] w (ElP (pwm x 2) w) := by
  have h := squares_any x 1 hx (by decide) w
  rw [show 2 ^ 1 = 2 by decide +kernel] at h
  exact h
theorem squares_2 (x : Nat) (hx : x < 115792089237316195423570985008687907853269984665640564039457584007913129639936) (w : World) : Calls Try.prog 83 #[.agg (e4 x), .int .i64 2] w (ElP (pwm x 4) w) := by
  have h := squares_any x 2 hx (by decide) w
  rw [show 2 ^ 2 = 4 by decide +kernel] at h
  exact h
theorem squares_3 (x : Nat) (hx : x < 115792089237316195423570985008687907853269984665640564039457584007913129639936) (w : World) : Calls Try.prog 83 #[.agg (e4 x), .int .i64 3] w (ElP (pwm x 8) w) := by
  have h := squares_any x 3 hx (by decide) w
  rw [show 2 ^ 3 = 8 by decide +kernel] at h
  exact h
theorem squares_5 (x : Nat) (hx : x < 115792089237316195423570985008687907853269984665640564039457584007913129639936) (w : World) : Calls Try.prog 83 #[.agg (e4 x), .int .i64 5] w (ElP (pwm x 32) w) := by
  have h := squares_any x 5 hx (by decide) w
  rw [show 2 ^ 5 = 32 by decide +kernel] at h
  exact h
theorem squares_10 (x : Nat) (hx : x < 115792089237316195423570985008687907853269984665640564039457584007913129639936) (w : World) : Calls Try.prog 83 #[.agg (e4 x), .int .i64 10] w (ElP (pwm x 1024) w) := by
  have h := squares_any x 10 hx (by decide) w
  rw [show 2 ^ 10 = 1024 by decide +kernel] at h
  exact h
theorem squares_50 (x : Nat) (hx : x < 115792089237316195423570985008687907853269984665640564039457584007913129639936) (w : World) : Calls Try.prog 83 #[.agg (e4 x), .int .i64 50] w (ElP (pwm x 1125899906842624) w) := by
  have h := squares_any x 50 hx (by decide) w
  rw [show 2 ^ 50 = 1125899906842624 by decide +kernel] at h
  exact h
theorem ent28 : Enters Try.prog 28 := ⟨_, Try.func28, by kernel_rfl, by kernel_rfl⟩
theorem ent29 : Enters Try.prog 29 := ⟨_, Try.func29, by kernel_rfl, by kernel_rfl⟩
theorem ent30 : Enters Try.prog 30 := ⟨_, Try.func30, by kernel_rfl, by kernel_rfl⟩
theorem ent31 : Enters Try.prog 31 := ⟨_, Try.func31, by kernel_rfl, by kernel_rfl⟩
theorem ent33 : Enters Try.prog 33 := ⟨_, Try.func33, by kernel_rfl, by kernel_rfl⟩
theorem ent34 : Enters Try.prog 34 := ⟨_, Try.func34, by kernel_rfl, by kernel_rfl⟩
theorem ent36 : Enters Try.prog 36 := ⟨_, Try.func36, by kernel_rfl, by kernel_rfl⟩
theorem ent37 : Enters Try.prog 37 := ⟨_, Try.func37, by kernel_rfl, by kernel_rfl⟩
theorem ent38 : Enters Try.prog 38 := ⟨_, Try.func38, by kernel_rfl, by kernel_rfl⟩
theorem ent39 : Enters Try.prog 39 := ⟨_, Try.func39, by kernel_rfl, by kernel_rfl⟩
theorem ent40 : Enters Try.prog 40 := ⟨_, Try.func40, by kernel_rfl, by kernel_rfl⟩
theorem ent41 : Enters Try.prog 41 := ⟨_, Try.func41, by kernel_rfl, by kernel_rfl⟩
theorem ent42 : Enters Try.prog 42 := ⟨_, Try.func42, by kernel_rfl, by kernel_rfl⟩
theorem ent43 : Enters Try.prog 43 := ⟨_, Try.func43, by kernel_rfl, by kernel_rfl⟩
theorem ent44 : Enters Try.prog 44 := ⟨_, Try.func44, by kernel_rfl, by kernel_rfl⟩
theorem ent45 : Enters Try.prog 45 := ⟨_, Try.func45, by kernel_rfl, by kernel_rfl⟩
theorem ent73 : Enters Try.prog 73 := ⟨_, Try.func73, by kernel_rfl, by kernel_rfl⟩
theorem ent74 : Enters Try.prog 74 := ⟨_, Try.func74, by kernel_rfl, by kernel_rfl⟩
theorem ent83 : Enters Try.prog 83 := ⟨_, Try.func83, by kernel_rfl, by kernel_rfl⟩
theorem ent84 : Enters Try.prog 84 := ⟨_, Try.func84, by kernel_rfl, by kernel_rfl⟩
theorem ent110 : Enters Try.prog 110 := ⟨_, Try.func110, by kernel_rfl, by kernel_rfl⟩
end Go.Proofs.Ytjiagjonlcadiaa
