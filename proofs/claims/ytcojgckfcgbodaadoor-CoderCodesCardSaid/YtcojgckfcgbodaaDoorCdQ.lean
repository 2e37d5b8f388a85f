/- Bytes as signs and back: the plain laws, hexadecimal figures. -/
import Derived.Test.YtcojgckfcgbodaaDoorCdX
namespace Go.Proofs.YtcojgckfcgbodaaDoor
open Go.Sx

theorem u8_cases {P : UInt8 → Prop} (h : ∀ n, n < 256 → P (UInt8.ofNat n)) (c : UInt8) : P c := by
  have := h c.toNat (UInt8.toNat_lt c)
  rwa [UInt8.ofNat_toNat] at this
theorem dsAll_app (sg : ByteArray) (k : Nat) (a b : List UInt8) : ∀ s : Cs, dsAll sg k (a ++ b) s = (dsAll sg k a s).bind (dsAll sg k b) := by
  induction a with
  | nil => intro s; rfl
  | cons c a ih =>
    intro s
    show (match idxO sg c with | some j => dsAll sg k (a ++ b) (ds1 k s j) | none => none) = (match idxO sg c with | some j => dsAll sg k a (ds1 k s j) | none => none).bind _
    cases idxO sg c with
    | none => rfl
    | some j => exact ih _
theorem ds1_pre (k : Nat) (p : List UInt8) (s : Cs) (j : Nat) : ds1 k (p ++ s.1, s.2) j = (p ++ (ds1 k s j).1, (ds1 k s j).2) := by
  unfold ds1
  simp only
  split <;> simp
theorem dsAll_pre (sg : ByteArray) (k : Nat) (p : List UInt8) (l : List UInt8) : ∀ s : Cs, dsAll sg k l (p ++ s.1, s.2) = (dsAll sg k l s).map fun q => (p ++ q.1, q.2) := by
  induction l with
  | nil => intro s; rfl
  | cons c l ih =>
    intro s
    show (match idxO sg c with | some j => dsAll sg k l (ds1 k (p ++ s.1, s.2) j) | none => none) = (match idxO sg c with | some j => dsAll sg k l (ds1 k s j) | none => none).map _
    cases idxO sg c with
    | none => rfl
    | some j => simp only; rw [ds1_pre]; exact ih _
/-- some signs that leave nothing over go first -/
theorem decL_pre (sg : ByteArray) (k : Nat) (p q l : List UInt8) (h : dsAll sg k p ([], 0, 0) = some (q, 0, 0)) : decL sg k (p ++ l) = (decL sg k l).map (q ++ ·) := by
  unfold decL
  rw [dsAll_app, h]
  show decE k (dsAll sg k l (q, 0, 0)) = _
  have := dsAll_pre sg k q l ([], 0, 0)
  simp only [List.append_nil] at this
  rw [this]
  cases dsAll sg k l ([], 0, 0) with
  | none => rfl
  | some s =>
    show decE k (some (q ++ s.1, s.2)) = Option.map _ (decE k (some s))
    unfold decE
    simp only
    split <;> rfl

theorem hex1 (c : UInt8) : codeL hexS 4 [c] = rhexL [c] := u8_cases (P := fun c => codeL hexS 4 [c] = rhexL [c]) (by decide +kernel) c
theorem hex_A (b : List UInt8) : codeL hexS 4 b = rhexL b := by
  induction b with
  | nil => rfl
  | cons c b ih =>
    have := hex_app [c] b
    rw [List.singleton_append] at this
    rw [this, hex1, ih]; rfl
theorem dhex1 (c : UInt8) : dsAll hexS 4 (rhexL [c]) ([], 0, 0) = some ([c], 0, 0) := u8_cases (P := fun c => dsAll hexS 4 (rhexL [c]) ([], 0, 0) = some ([c], 0, 0)) (by decide +kernel) c
theorem hex_C (b : List UInt8) : decL hexS 4 (rhexL b) = some b := by
  induction b with
  | nil => rfl
  | cons c b ih =>
    show decL hexS 4 (rhexL [c] ++ rhexL b) = _
    rw [decL_pre _ _ _ _ _ (dhex1 c), ih]; rfl
theorem dhex2f : ∀ n, n < 256 → dsAll hexS 4 [sgn hexS (n / 16), sgn hexS (n % 16)] ([], 0, 0) = some ([UInt8.ofNat n], 0, 0) ∧ rhexL [UInt8.ofNat n] = [sgn hexS (n / 16), sgn hexS (n % 16)] := by decide +kernel
theorem dhex2 (i : Nat) (hi : i < 16) (j : Nat) (hj : j < 16) : dsAll hexS 4 [sgn hexS i, sgn hexS j] ([], 0, 0) = some ([UInt8.ofNat (16 * i + j)], 0, 0) ∧ rhexL [UInt8.ofNat (16 * i + j)] = [sgn hexS i, sgn hexS j] := by
  have := dhex2f (16 * i + j) (by omega)
  rwa [show (16 * i + j) / 16 = i by omega, show (16 * i + j) % 16 = j by omega] at this
theorem dhex0 : ∀ i, i < 16 → decL hexS 4 [sgn hexS i] = none := by decide +kernel
theorem dec_head {sg : ByteArray} {k : Nat} {c : UInt8} {l x : List UInt8} {s : Cs} (h : decE k (dsAll sg k (c :: l) s) = some x) : ∃ i, i < sg.size ∧ sgn sg i = c := by
  unfold dsAll at h
  cases hi : idxO sg c with
  | none => rw [hi] at h; cases h
  | some i => exact ⟨i, idxO_lt hi⟩
theorem dec_tail {sg : ByteArray} {k : Nat} {c : UInt8} {l x : List UInt8} {s : Cs} (h : decE k (dsAll sg k (c :: l) s) = some x) : ∃ s', decE k (dsAll sg k l s') = some x := by
  unfold dsAll at h
  cases hi : idxO sg c with
  | none => rw [hi] at h; cases h
  | some i => rw [hi] at h; exact ⟨_, h⟩
theorem hex_D : ∀ s x : List UInt8, decL hexS 4 s = some x → rhexL x = s
  | [], x, h => by
    have : x = [] := by have e : decL hexS 4 [] = some [] := rfl; rw [e] at h; exact (Option.some.inj h).symm
    subst this; rfl
  | [a], x, h => by
    obtain ⟨i, hi, rfl⟩ := dec_head h
    rw [dhex0 i hi] at h; cases h
  | a :: b :: l, x, h => by
    obtain ⟨i, hi, rfl⟩ := dec_head h
    obtain ⟨s', h'⟩ := dec_tail h
    obtain ⟨j, hj, rfl⟩ := dec_head h'
    obtain ⟨h1, h2⟩ := dhex2 i hi j hj
    have h3 := decL_pre hexS 4 _ _ l h1
    rw [show [sgn hexS i, sgn hexS j] ++ l = sgn hexS i :: sgn hexS j :: l from rfl, h] at h3
    cases hl : decL hexS 4 l with
    | none => rw [hl] at h3; cases h3
    | some y =>
      rw [hl] at h3
      have e : x = [UInt8.ofNat (16 * i + j)] ++ y := Option.some.inj h3
      subst e
      have ih := hex_D l y hl
      show sgn hexS _ :: sgn hexS _ :: rhexL y = _
      rw [ih]
      simp only [rhexL, List.cons.injEq, and_true] at h2
      rw [h2.1, h2.2]
theorem hb2_1 (c : UInt8) : hb2 (sgn hexS (c.toNat / 16)) (sgn hexS (c.toNat % 16)) = c := u8_cases (P := fun c => hb2 (sgn hexS (c.toNat / 16)) (sgn hexS (c.toNat % 16)) = c) (by decide +kernel) c
theorem runhex_cons (x y : UInt8) (l : List UInt8) (m : Nat) : runhex (x :: y :: l) (m + 1) = hb2 x y :: runhex l m := by
  induction m with
  | zero => rfl
  | succ m ih =>
    show runhex (x :: y :: l) (m + 1) ++ _ = _
    rw [ih]
    show _ = hb2 x y :: (runhex l m ++ _)
    rw [List.cons_append]
    rfl
theorem hex_E (b : List UInt8) : runhex (rhexL b) ((rhexL b).length / 2) = b := by
  rw [rhexL_len, Nat.mul_div_cancel_left _ (by decide)]
  induction b with
  | nil => rfl
  | cons c b ih =>
    show runhex (sgn hexS _ :: sgn hexS _ :: rhexL b) (b.length + 1) = _
    rw [runhex_cons, hb2_1, ih]
/-- the reference's bytes of figures are the program's -/
theorem hex_ref (s : List UInt8) : refU rhexL (runhex s (s.length / 2)) s = decL hexS 4 s := by
  unfold refU
  cases h : decL hexS 4 s with
  | some x =>
    have h1 := hex_D s x h
    have h2 := hex_E x
    rw [h1] at h2
    rw [h2, if_pos h1]
  | none =>
    rw [if_neg]
    intro h1
    have h2 := hex_C (runhex s (s.length / 2))
    rw [h1, h] at h2; cases h2
end Go.Proofs.YtcojgckfcgbodaaDoor
