/- The codes of two rows, one behind the other: the plain law. -/
import Derived.Test.YtcojgckfcgbodaaDoorCdR
namespace Go.Proofs.YtcojgckfcgbodaaDoor
open Go.Sx

theorem csAll_have (sg : ByteArray) (k : Nat) (hk : 3 ≤ k) (bs : List UInt8) : (csAll sg k bs).2.2 = 8 * bs.length % k := by
  obtain ⟨h1, h2⟩ := csAll_lt sg k hk bs
  have := h1.sum
  rw [← this, Nat.mul_comm, Nat.mul_add_mod, Nat.mod_eq_of_lt h2]
theorem cs1_pre (sg : ByteArray) (k : Nat) (p : List UInt8) (s : Cs) : cs1 sg k (p ++ s.1, s.2) = (p ++ (cs1 sg k s).1, (cs1 sg k s).2) := by
  unfold cs1
  split <;> simp
theorem csB_pre (sg : ByteArray) (k : Nat) (p : List UInt8) (s : Cs) (c : Nat) : csB sg k (p ++ s.1, s.2) c = (p ++ (csB sg k s c).1, (csB sg k s c).2) := by
  have h1 := cs1_pre sg k p (s.1, s.2.1 * 256 + c, s.2.2 + 8)
  unfold csB csF
  simp only at h1 ⊢
  rw [h1, cs1_pre, cs1_pre]
theorem csFold_pre (sg : ByteArray) (k : Nat) (p : List UInt8) (bs : List UInt8) : ∀ s : Cs, bs.foldl (fun s c => csB sg k s c.toNat) (p ++ s.1, s.2) = (p ++ (bs.foldl (fun s c => csB sg k s c.toNat) s).1, (bs.foldl (fun s c => csB sg k s c.toNat) s).2) := by
  induction bs with
  | nil => intro s; rfl
  | cons c bs ih => intro s; simp only [List.foldl_cons]; rw [csB_pre]; exact ih _
theorem codeL_app (sg : ByteArray) (k : Nat) (hk : 3 ≤ k) (a b : List UInt8) (h : 8 * a.length % k = 0) : codeL sg k (a ++ b) = codeL sg k a ++ codeL sg k b := by
  have h1 := csAll_have sg k hk a
  rw [h] at h1
  have h2 := (csAll_lt sg k hk a).1.bits
  rw [h1] at h2
  have h3 : (csAll sg k a).2 = (0, 0) := Prod.ext (by simpa using h2) h1
  have e : csAll sg k (a ++ b) = ((csAll sg k a).1 ++ (csAll sg k b).1, (csAll sg k b).2) := by
    have h4 := csFold_pre sg k (csAll sg k a).1 b ([], 0, 0)
    simp only [List.append_nil] at h4
    show (a ++ b).foldl _ _ = _
    rw [List.foldl_append]
    show b.foldl _ (csAll sg k a) = _
    rw [show csAll sg k a = ((csAll sg k a).1, (0, 0)) from Prod.ext rfl h3]
    exact h4
  have e1 : codeL sg k a = (csAll sg k a).1 := by unfold codeL; rw [h1, if_neg (by omega)]
  rw [e1]
  unfold codeL
  rw [e]
  simp only
  split
  · rw [List.append_assoc]
  · rfl
theorem filledL_app (a b : List UInt8) (h : a.length % 4 = 0) : filledL (a ++ b) = filledL a ++ filledL b := by
  unfold filledL
  rw [show (4 - a.length % 4) % 4 = 0 by omega, List.length_append, show (a.length + b.length) % 4 = b.length % 4 by omega]
  simp
theorem hex_app (a b : List UInt8) : codeL hexS 4 (a ++ b) = codeL hexS 4 a ++ codeL hexS 4 b := codeL_app hexS 4 (by decide) a b (by omega)
theorem base64_app (a b : List UInt8) (h : a.length % 3 = 0) : filledL (codeL sixS 6 (a ++ b)) = filledL (codeL sixS 6 a) ++ filledL (codeL sixS 6 b) := by
  rw [codeL_app sixS 6 (by decide) a b (by omega), filledL_app]
  rw [codeL_len sixS 6 (by decide)]; omega
end Go.Proofs.YtcojgckfcgbodaaDoor
