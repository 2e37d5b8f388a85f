/- The reference's disk: how it lies; its small functions. -/
import Derived.Test.YtdgkaboaapfnmaaDkJ
namespace Go.Proofs.Ytdgkaboaapfnmaa
open Go.RowKit Go.Sx
set_option linter.unusedVariables false

abbrev TR : Nat := 37
abbrev TFi : Nat := 86
abbrev TFs : Nat := 35
/-- the cells of files, each with its bytes' slice -/
def rfC (ps : List (Value × Fe)) : List Value := ps.flatMap fun p => [VS p.2.name, p.1, .int .i64 p.2.sure]
theorem rfC_len (ps : List (Value × Fe)) : (rfC ps).length = ps.length * 3 := by
  induction ps with
  | nil => rfl
  | cons p l ih => simp only [rfC, List.flatMap_cons, List.length_append, List.length_cons, List.length_nil] at *; omega
theorem rfC_app (a b : List (Value × Fe)) : rfC (a ++ b) = rfC a ++ rfC b := by simp [rfC]
theorem rfC_get (ps : List (Value × Fe)) (i : Nat) (h : i < ps.length) : (rfC ps)[i * 3]? = some (VS ps[i].2.name) ∧ (rfC ps)[i * 3 + 1]? = some ps[i].1 ∧ (rfC ps)[i * 3 + 2]? = some (.int .i64 ps[i].2.sure) := by
  induction ps generalizing i with
  | nil => cases h
  | cons p l ih =>
    cases i with
    | zero => exact ⟨rfl, rfl, rfl⟩
    | succ i =>
      have := ih i (by simpa using h)
      rw [show (i + 1) * 3 = i * 3 + 3 by omega]
      exact this
/-- files that a slice reads, in blocks of a kind -/
def RFs (rr : Nat → Prop) (u : World) (fv : Value) (fs : List Fe) : Prop := ∃ ps : List (Value × Fe), ps.map (·.2) = fs ∧ (∀ p ∈ ps, RdR rr u p.1 (Lib.byteCells p.2.bs)) ∧ ∃ a c, fv = .slice a fs.length c ∧ (fs ≠ [] → ∃ b o, a = some ⟨b, o, none⟩ ∧ rr b ∧ b < u.heap.size ∧ ∀ j x, (rfC ps)[j]? = some x → u.cell? ⟨b, o + j, none⟩ = some x)
theorem RFs.same {rr : Nat → Prop} {u v : World} {fv : Value} {fs : List Fe} (hs : ∀ k, rr k → v.heap[k]? = u.heap[k]?) (h : RFs rr u fv fs) : RFs rr v fv fs := by
  obtain ⟨ps, h1, h2, a, c, h3, h4⟩ := h
  refine ⟨ps, h1, fun p hp => (h2 p hp).same hs, a, c, h3, fun hne => ?_⟩
  obtain ⟨b, o, e, hb, hl, hc⟩ := h4 hne
  have hbb := hs b hb
  refine ⟨b, o, e, hb, ?_, fun j x hx => ?_⟩
  · rw [Array.getElem?_eq_getElem hl] at hbb
    exact (Array.getElem?_eq_some_iff.1 hbb).1
  · rw [← hc j x hx]; simp only [World.cell?, hbb]
theorem RFs.nil (rr : Nat → Prop) (u : World) (a : Option Addr) (c : Nat) : RFs rr u (.slice a 0 c) [] := ⟨[], rfl, (fun p hp => by cases hp), a, c, rfl, fun h => absurd rfl h⟩
theorem RFs.mono {rr rr' : Nat → Prop} {u : World} {fv : Value} {fs : List Fe} (hr : ∀ k, rr k → rr' k) (h : RFs rr u fv fs) : RFs rr' u fv fs := by
  obtain ⟨ps, h1, h2, a, c, h3, h4⟩ := h
  refine ⟨ps, h1, fun p hp => (h2 p hp).mono hr, a, c, h3, fun hne => ?_⟩
  obtain ⟨b, o, e, hb, hl, hc⟩ := h4 hne
  exact ⟨b, o, e, hr b hb, hl, hc⟩
/-- a disk's cells -/
def rdC (M : Dk) (fv : Value) : Array Value := #[.int .i64 M.quota, .int .i64 M.steps, .int .i64 M.left, .bool M.armed, .bool M.gone, fv]
/-- where a file stands -/
def atF (n : List UInt8) : List Fe → Nat → Int
  | [], _ => -1
  | f :: l, i => if f.name = n then i else atF n l (i + 1)
theorem atF_drop (n : List UInt8) (fs : List Fe) (i : Nat) (h : i < fs.length) : atF n (fs.drop i) i = if fs[i].name = n then (i : Int) else atF n (fs.drop (i + 1)) (i + 1) := by
  rw [List.drop_eq_getElem_cons h]; rfl
theorem bytesLess_eq (a b : List UInt8) : Op.bytesLess a b = decide (a < b) := by
  induction a generalizing b with
  | nil => cases b <;> simp [Op.bytesLess]
  | cons x a ih =>
    cases b with
    | nil => simp [Op.bytesLess]
    | cons y b =>
      simp only [Op.bytesLess, ih, List.cons_lt_cons_iff]
      rw [Bool.eq_iff_iff]
      simp
theorem str_beq (a b : List UInt8) : ((ByteArray.mk a.toArray).toList == (ByteArray.mk b.toArray).toList) = decide (a = b) := list_beq a b
theorem str_less (a b : List UInt8) : Op.bytesLess (ByteArray.mk a.toArray).toList (ByteArray.mk b.toArray).toList = decide (a < b) := by
  have : ∀ l : List UInt8, (ByteArray.mk l.toArray).toList = l := fun l => by simp
  rw [this, this, bytesLess_eq]
end Go.Proofs.Ytdgkaboaapfnmaa
