/- Bytes as signs, in plain words: one byte behind the other, so many bits a sign. -/
import Derived.Test.YtcojgckfcgbodaaDoorSxI
namespace Go.Proofs.YtcojgckfcgbodaaDoor
open Go.Sx

def sgn (s : ByteArray) (j : Nat) : UInt8 := s.data.getD j 0
theorem chP {s : ByteArray} {i : Int} (j : Nat) (hi : i = j) (hj : j < s.size) {next : Value → Prop} (go : next (.int .u8 (sgn s j).toNat)) : ChP s i next := by
  subst hi
  refine ⟨by omega, by simpa using hj, ?_⟩
  have : s[(j : Int).toNat]'(by simpa using hj) = sgn s j := by
    unfold sgn
    have hj' : j < s.data.size := hj
    simp only [Int.toNat_natCast]
    show s.data[j] = _
    simp [Array.getD]
    intro h; omega
  rw [this]; exact go
theorem shrN (a n : Nat) (hn : n ≤ 64) : (a : Int).fdiv (2 ^ (min ((n : Nat) : Int).toNat 64)) = ((a / 2 ^ n : Nat) : Int) := by
  rw [Int.toNat_natCast, Nat.min_eq_left hn, Int.fdiv_eq_ediv_of_nonneg _ (by exact Int.le_of_lt (Int.pow_pos (by decide)))]
  norm_cast
theorem shlN (a n : Nat) (hn : n ≤ 64) : (a : Int) * 2 ^ (min ((n : Nat) : Int).toNat 64) = ((a * 2 ^ n : Nat) : Int) := by
  rw [Int.toNat_natCast, Nat.min_eq_left hn]
  norm_cast
theorem wrapN (a : Nat) (h : a < 9223372036854775808) : IntKind.i64.wrap (a : Int) = a := by rw [IntKind.wrap_i64]; omega
theorem orN (a b : Nat) (ha : a < 9223372036854775808) (hb : b < 9223372036854775808) : bitI .or .i64 (a : Int) (b : Int) = ((a ||| b : Nat) : Int) := by
  have h : a ||| b < 2 ^ 63 := Nat.or_lt_two_pow (by omega) (by omega)
  show IntKind.i64.wrap ((BitVec.ofInt 64 (a : Int) ||| BitVec.ofInt 64 (b : Int)).toNat : Int) = _
  simp only [BitVec.ofInt_natCast, BitVec.toNat_or, BitVec.toNat_ofNat]
  rw [Nat.mod_eq_of_lt (by omega), Nat.mod_eq_of_lt (by omega)]
  exact wrapN _ (by omega)
theorem andN (a b : Nat) (ha : a < 9223372036854775808) (hb : b < 9223372036854775808) : bitI .and .i64 (a : Int) (b : Int) = ((a &&& b : Nat) : Int) := by
  have h : a &&& b ≤ a := Nat.and_le_left
  show IntKind.i64.wrap ((BitVec.ofInt 64 (a : Int) &&& BitVec.ofInt 64 (b : Int)).toNat : Int) = _
  simp only [BitVec.ofInt_natCast, BitVec.toNat_and, BitVec.toNat_ofNat]
  rw [Nat.mod_eq_of_lt (by omega), Nat.mod_eq_of_lt (by omega)]
  exact wrapN _ (by omega)
theorem or_add (x c j : Nat) (hc : c < 2 ^ j) : x * 2 ^ j ||| c = x * 2 ^ j + c := by
  rw [← Nat.shiftLeft_eq]; exact (Nat.shiftLeft_add_eq_or_of_lt hc x).symm

/-- signs, bits that are left, how many -/
abbrev Cs := List UInt8 × Nat × Nat
def cs1 (sg : ByteArray) (k : Nat) (s : Cs) : Cs := if k ≤ s.2.2 then (s.1 ++ [sgn sg (s.2.1 / 2 ^ (s.2.2 - k))], s.2.1 % 2 ^ (s.2.2 - k), s.2.2 - k) else s
def csF (sg : ByteArray) (k : Nat) (s : Cs) : Cs := cs1 sg k (cs1 sg k (cs1 sg k s))
def csB (sg : ByteArray) (k : Nat) (s : Cs) (c : Nat) : Cs := csF sg k (s.1, s.2.1 * 256 + c, s.2.2 + 8)
def csAll (sg : ByteArray) (k : Nat) (bs : List UInt8) : Cs := bs.foldl (fun s c => csB sg k s c.toNat) ([], 0, 0)
def codeL (sg : ByteArray) (k : Nat) (bs : List UInt8) : List UInt8 := if 0 < (csAll sg k bs).2.2 then (csAll sg k bs).1 ++ [sgn sg ((csAll sg k bs).2.1 * 2 ^ (k - (csAll sg k bs).2.2))] else (csAll sg k bs).1
theorem cs1_lt (sg : ByteArray) (k : Nat) (s : Cs) (h : s.2.2 < k) : cs1 sg k s = s := by unfold cs1; rw [if_neg (by omega)]
theorem cs1_have (sg : ByteArray) (k : Nat) (s : Cs) (h : k ≤ s.2.2) : (cs1 sg k s).2.2 = s.2.2 - k := by unfold cs1; rw [if_pos h]
theorem csF_done (sg : ByteArray) (k : Nat) (s : Cs) (h : s.2.2 < k) : csF sg k s = s := by
  unfold csF
  rw [cs1_lt sg k s h, cs1_lt sg k s h, cs1_lt sg k s h]
theorem csF_lt (sg : ByteArray) (k : Nat) (s : Cs) (h : s.2.2 < 4 * k) : (csF sg k s).2.2 < k := by
  unfold csF
  by_cases h1 : k ≤ s.2.2
  · have e1 := cs1_have sg k s h1
    by_cases h2 : k ≤ (cs1 sg k s).2.2
    · have e2 := cs1_have sg k _ h2
      by_cases h3 : k ≤ (cs1 sg k (cs1 sg k s)).2.2
      · have e3 := cs1_have sg k _ h3; omega
      · rw [cs1_lt sg k _ (by omega)]; omega
    · rw [cs1_lt sg k (cs1 sg k s) (by omega), cs1_lt sg k (cs1 sg k s) (by omega)]; omega
  · rw [cs1_lt sg k s (by omega), cs1_lt sg k s (by omega), cs1_lt sg k s (by omega)]; omega
theorem csF_step (sg : ByteArray) (k : Nat) (s : Cs) (h : s.2.2 < 4 * k) : csF sg k (cs1 sg k s) = csF sg k s := by
  have h1 := csF_lt sg k s h
  show cs1 sg k (csF sg k s) = _
  exact cs1_lt sg k _ h1
/-- what is always so: few bits are left, and they are what they are -/
structure CsI (k n : Nat) (s : Cs) : Prop where
  bits : s.2.1 < 2 ^ s.2.2
  sum : s.1.length * k + s.2.2 = 8 * n
theorem CsI.step {k n : Nat} {s : Cs} {sg : ByteArray} (h : CsI k n s) : CsI k n (cs1 sg k s) := by
  unfold cs1
  split
  · rename_i hk
    refine ⟨Nat.mod_lt _ (Nat.two_pow_pos _), ?_⟩
    have := h.sum
    simp only [List.length_append, List.length_singleton, Nat.add_mul]
    omega
  · exact h
theorem CsI.full {k n : Nat} {s : Cs} {sg : ByteArray} (h : CsI k n s) : CsI k n (csF sg k s) := h.step.step.step
theorem CsI.byte {k n : Nat} {s : Cs} (h : CsI k n s) (c : Nat) (hc : c < 256) : CsI k (n + 1) (s.1, s.2.1 * 256 + c, s.2.2 + 8) := by
  refine ⟨?_, ?_⟩
  · have := h.bits
    show s.2.1 * 256 + c < 2 ^ (s.2.2 + 8)
    rw [Nat.pow_add]; omega
  · have := h.sum
    show s.1.length * k + (s.2.2 + 8) = _
    omega
theorem csAll_take (sg : ByteArray) (k : Nat) (bs : List UInt8) (i : Nat) (h : i < bs.length) : csAll sg k (bs.take (i + 1)) = csB sg k (csAll sg k (bs.take i)) bs[i].toNat := by
  unfold csAll
  rw [List.take_succ_eq_append_getElem h, List.foldl_append]; rfl
theorem cs_top (k b h : Nat) (hb : b < 2 ^ h) (hh : k ≤ h) : b / 2 ^ (h - k) < 2 ^ k := by
  rw [Nat.div_lt_iff_lt_mul (Nat.two_pow_pos _), ← Nat.pow_add]
  have : k + (h - k) = h := by omega
  rw [this]; exact hb
theorem csAll_lt (sg : ByteArray) (k : Nat) (hk : 3 ≤ k) (bs : List UInt8) : CsI k bs.length (csAll sg k bs) ∧ (csAll sg k bs).2.2 < k := by
  induction hn : bs.length generalizing bs with
  | zero =>
    have : bs = [] := List.eq_nil_of_length_eq_zero hn
    subst this
    exact ⟨⟨Nat.one_pos, by show 0 * k + 0 = 8 * 0; omega⟩, by show 0 < k; omega⟩
  | succ n ih =>
    have h0 : n < bs.length := by omega
    have e : bs = bs.take (n + 1) := by rw [List.take_of_length_le (by omega)]
    rw [e, csAll_take sg k bs n h0]
    obtain ⟨h1, h2⟩ := ih (bs.take n) (by simp; omega)
    have hc : bs[n].toNat < 256 := UInt8.toNat_lt _
    refine ⟨(h1.byte _ hc).full, csF_lt sg k _ ?_⟩
    show (csAll sg k (bs.take n)).2.2 + 8 < 4 * k
    omega
end Go.Proofs.YtcojgckfcgbodaaDoor
