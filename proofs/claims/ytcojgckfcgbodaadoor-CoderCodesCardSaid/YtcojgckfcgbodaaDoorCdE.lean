/- The bytes of signs, in plain words. -/
import Derived.Test.YtcojgckfcgbodaaDoorCdP
import Derived.Laws.Externs
import Derived.Laws.MakeOwn
namespace Go.Proofs.YtcojgckfcgbodaaDoor
open Go.Sx

/-- which sign it is -/
def idxO (sg : ByteArray) (c : UInt8) : Option Nat := (List.range sg.size).find? fun i => sg[i]! == c
theorem firstIdx_eq (sg : ByteArray) (c : UInt8) : firstIdx sg c = match idxO sg c with | some i => (i : Int) | none => -1 := rfl
theorem idxO_lt {sg : ByteArray} {c : UInt8} {j : Nat} (h : idxO sg c = some j) : j < sg.size ∧ sgn sg j = c := by
  have h1 := List.mem_range.1 (List.mem_of_find?_eq_some h)
  have h2 := List.find?_some h
  refine ⟨h1, ?_⟩
  have h3 : sg[j]! = sgn sg j := by
    have hj : j < sg.data.size := h1
    rw [getElem!_pos sg j h1]
    unfold sgn
    show sg.data[j] = _
    simp [Array.getD]
    intro h; omega
  rw [← h3]
  simpa using h2
/-- bytes, bits that are left, how many -/
def ds1 (k : Nat) (s : Cs) (j : Nat) : Cs := if 8 ≤ s.2.2 + k then (s.1 ++ [UInt8.ofNat ((s.2.1 * 2 ^ k + j) / 2 ^ (s.2.2 + k - 8))], (s.2.1 * 2 ^ k + j) % 2 ^ (s.2.2 + k - 8), s.2.2 + k - 8) else (s.1, s.2.1 * 2 ^ k + j, s.2.2 + k)
def dsAll (sg : ByteArray) (k : Nat) : List UInt8 → Cs → Option Cs
  | [], s => some s
  | c :: l, s => match idxO sg c with
    | some j => dsAll sg k l (ds1 k s j)
    | none => none
def decE (k : Nat) : Option Cs → Option (List UInt8)
  | some s => if k ≤ s.2.2 ∨ s.2.1 ≠ 0 then none else some s.1
  | none => none
def decL (sg : ByteArray) (k : Nat) (l : List UInt8) : Option (List UInt8) := decE k (dsAll sg k l ([], 0, 0))
structure DsI (k n : Nat) (s : Cs) : Prop where
  bits : s.2.1 < 2 ^ s.2.2
  sum : s.1.length * 8 + s.2.2 = k * n
  lt : s.2.2 < 8
theorem DsI.step {k n j : Nat} {s : Cs} (h : DsI k n s) (hj : j < 2 ^ k) (hk : k ≤ 8) : DsI k (n + 1) (ds1 k s j) := by
  have h1 := h.bits
  have h2 := h.sum
  have h3 := h.lt
  have hb : s.2.1 * 2 ^ k + j < 2 ^ (s.2.2 + k) := by
    rw [Nat.pow_add]
    have : (s.2.1 + 1) * 2 ^ k ≤ 2 ^ s.2.2 * 2 ^ k := Nat.mul_le_mul_right _ h1
    rw [Nat.add_mul] at this
    omega
  unfold ds1
  split
  · refine ⟨Nat.mod_lt _ (Nat.two_pow_pos _), ?_, by show s.2.2 + k - 8 < 8; omega⟩
    simp only [List.length_append, List.length_singleton, Nat.mul_add]
    omega
  · refine ⟨hb, ?_, by show s.2.2 + k < 8; omega⟩
    simp only [Nat.mul_add]
    omega
theorem drop_cons {l : List UInt8} {i : Nat} (h : i < l.length) : l.drop i = l[i] :: l.drop (i + 1) := List.drop_eq_getElem_cons h
theorem madeU8 (w : World) {P : Program} {t e : TypeId} (ht : P.underlying t = some (.slice e)) (hi : (P.info? e).map (fun i => (i.zero, i.size, i.bytes)) = some (some (.int .u8 0), 1, 1)) (l c : Nat) (hlc : l ≤ c) (hc : c ≤ 100000000) :
    (Instr.makeSlice t (.int .i64 (l : Int)) (.int .i64 (c : Int))).run P w = .ok (.slice (some ⟨w.heap.size, 0, none⟩) l c) (w.alloc (.cells (List.replicate c (.int .u8 0)).toArray e)) := by
  obtain ⟨i, hi, hz, hs, hb⟩ := infoOf hi
  have h := run_make (P := P) w t e i _ ht hi hz .i64 .i64 (l : Int) (c : Int) (by omega) (by omega) (by rw [hb]; omega) (by omega)
  rw [hs] at h
  simp only [Int.toNat_natCast, Nat.mul_one] at h
  rw [h]
  congr 2
  simp only [madeCells]
  congr 1
  apply Array.ext
  · simp
  · intro i h1 h2
    simp [Value.cells, Nat.mod_one]
end Go.Proofs.YtcojgckfcgbodaaDoor
