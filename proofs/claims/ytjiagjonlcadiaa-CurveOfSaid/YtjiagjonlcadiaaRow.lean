/- Rows of integers in memory as functions of the place; what a block holds; sums of figures. -/
import Derived.Test.YtjiagjonlcadiaaBase
import Derived.Laws.Rows
import Derived.Laws.Tables
import Derived.Deep.MidRow
namespace Go.Proofs.Ytjiagjonlcadiaa
open Go.RowKit Go.Lib

/-- k cells of one integer kind -/
def rowl (kd : IntKind) (k : Nat) (f : Nat → Int) : List Value := (List.range k).map (fun i => Value.int kd (f i))
/-- the same, as an array -/
def row (kd : IntKind) (k : Nat) (f : Nat → Int) : Array Value := (rowl kd k f).toArray
/-- f, but x at i -/
def upd (f : Nat → Int) (i : Nat) (x : Int) : Nat → Int := fun j => if j = i then x else f j
theorem upd_same (f : Nat → Int) (i : Nat) (x : Int) : upd f i x i = x := by simp [upd]
theorem upd_ne (f : Nat → Int) (i j : Nat) (x : Int) (h : j ≠ i) : upd f i x j = f j := by simp [upd, h]

theorem rowl_len (kd : IntKind) (k : Nat) (f : Nat → Int) : (rowl kd k f).length = k := by simp [rowl]
theorem row_get (kd : IntKind) (k : Nat) (f : Nat → Int) (i : Nat) (h : i < k) : (row kd k f)[i]? = some (.int kd (f i)) := by
  simp [row, rowl, h]
theorem row_size (kd : IntKind) (k : Nat) (f : Nat → Int) : (row kd k f).size = k := by simp [row, rowl]
theorem row_none (kd : IntKind) (k : Nat) (f : Nat → Int) (i : Nat) (h : ¬ i < k) : (row kd k f)[i]? = none := by
  simp [row_size]; omega
theorem row_ext (kd : IntKind) (k : Nat) (f g : Nat → Int) (h : ∀ i, i < k → f i = g i) : row kd k f = row kd k g := by
  apply Array.ext_getElem?
  intro j
  by_cases hj : j < k
  · rw [row_get kd k _ j hj, row_get kd k _ j hj, h j hj]
  · rw [row_none kd k _ j hj, row_none kd k _ j hj]
theorem row_inj (kd : IntKind) (k : Nat) (f g : Nat → Int) (h : row kd k f = row kd k g) (i : Nat) (hi : i < k) : f i = g i := by
  have h1 := row_get kd k f i hi
  rw [h, row_get kd k g i hi] at h1
  simpa using h1.symm
theorem row_set (kd : IntKind) (k : Nat) (f : Nat → Int) (i : Nat) (x : Int) : (row kd k f).setIfInBounds i (.int kd x) = row kd k (upd f i x) := by
  apply Array.ext_getElem?
  intro j
  rw [Array.getElem?_setIfInBounds]
  simp only [row_size]
  by_cases hj : j < k
  · rw [row_get kd k _ j hj, row_get kd k _ j hj]
    unfold upd
    by_cases h : i = j
    · subst h; simp [hj]
    · have : ¬ j = i := fun e => h e.symm
      simp [h, this]
  · rw [row_none _ _ _ _ hj, row_none _ _ _ _ hj]; simp; omega
theorem row_one (kd : IntKind) (k : Nat) (f : Nat → Int) : (row kd k f).all (·.oneCell') = true := by
  simp [row, rowl, List.all_eq_true, Value.oneCell']

/-- block b holds just these cells, and may be written -/
def Has (w : World) (b : Nat) (c : Array Value) (t : TypeId) : Prop := w.heap[b]? = some (.cells c t (0, 0))
section has
variable {w w' : World} {b : Nat} {c : Array Value} {t : TypeId}
theorem Has.lt (h : Has w b c t) : b < w.heap.size := (Array.getElem?_eq_some_iff.1 h).1
theorem Has.cellAt (h : Has w b c t) (i : Nat) : w.cell? ⟨b, i, none⟩ = c[i]? := cell_of_row w b i c t _ h
theorem Has.cell {kd : IntKind} {k : Nat} {f : Nat → Int} (h : Has w b (row kd k f) t) (i : Nat) (hi : i < k) : w.cell? ⟨b, i, none⟩ = some (.int kd (f i)) := by
  rw [h.cellAt, row_get kd k f i hi]
theorem Has.range {l : List Value} (h : Has w b l.toArray t) : w.rangeAt b 0 l := fun j v hv => by
  rw [Nat.zero_add, h.cellAt]; simpa using hv
theorem Has.frozen (h : Has w b c t) (i : Nat) : w.frozen? ⟨b, i, none⟩ = false := frozen_of_row w b i c t h
theorem Has.setAt (h : Has w b c t) (i : Nat) (v : Value) : Has (w.setCell ⟨b, i, none⟩ v) b (c.setIfInBounds i v) t := heap_setCell_same w b i c t v h
theorem Has.set {kd : IntKind} {k : Nat} {f : Nat → Int} (h : Has w b (row kd k f) t) (i : Nat) (x : Int) : Has (w.setCell ⟨b, i, none⟩ (.int kd x)) b (row kd k (upd f i x)) t := by
  have := h.setAt i (.int kd x)
  rwa [row_set] at this
theorem Has.other (h : Has w b c t) (a : Addr) (v : Value) (hb : b ≠ a.block) : Has (w.setCell a v) b c t := (heap_setCell_other w a b v hb).trans h
theorem Has.drewN (h : Has w b c t) (n : Nat) : Has (w.drewN n) b c t := h
theorem Has.drew (h : Has w b c t) : Has w.drew b c t := h
theorem Has.alloc (h : Has w b c t) (o : Obj) : Has (w.alloc o) b c t := (Below.heap_alloc w o b h.lt).trans h
theorem Has.new (w : World) (c : Array Value) (t : TypeId) : Has (w.alloc (.cells c t)) w.heap.size c t := heap_alloc_new w _
theorem Has.new1 (w : World) (A : Obj) (c : Array Value) (t : TypeId) : Has ((w.alloc A).alloc (.cells c t)) (w.heap.size + 1) c t := by
  have := Has.new (w.alloc A) c t
  simpa using this
theorem Has.new2 (w : World) (A B : Obj) (c : Array Value) (t : TypeId) : Has (((w.alloc A).alloc B).alloc (.cells c t)) (w.heap.size + 1 + 1) c t := by
  have := Has.new ((w.alloc A).alloc B) c t
  simpa using this
theorem Has.new3 (w : World) (A B C : Obj) (c : Array Value) (t : TypeId) : Has ((((w.alloc A).alloc B).alloc C).alloc (.cells c t)) (w.heap.size + 1 + 1 + 1) c t := by
  have := Has.new (((w.alloc A).alloc B).alloc C) c t
  simpa using this
theorem Has.below {B : Nat} (h : Has w b c t) (hb : Below B w w') (hB : b < B) : Has w' b c t := (hb.block b hB).trans h
theorem Has.setRow (h : Has w b c t) (c' : Array Value) : Has (w.setRow b c') b c' t := setRow_heap w b c c' t _ h
theorem Has.setRow_other (h : Has w b c t) (g : Nat) (c' : Array Value) (hg : b ≠ g) : Has (w.setRow g c') b c t := (Go.setRow_other w g b c' hg).trans h
end has
/-- block b holds n cells, whichever, and may be written -/
def HasN (w : World) (b n : Nat) (t : TypeId) : Prop := ∃ c : Array Value, c.size = n ∧ Has w b c t
section hasn
variable {w w' : World} {b n : Nat} {t : TypeId}
theorem Has.toN {c : Array Value} (h : Has w b c t) (hn : c.size = n) : HasN w b n t := ⟨c, hn, h⟩
theorem HasN.new (w : World) (c : Array Value) (t : TypeId) (n : Nat) (hn : c.size = n) : HasN (w.alloc (.cells c t)) w.heap.size n t := ⟨c, hn, Has.new w c t⟩
theorem HasN.new1 (w : World) (A : Obj) (c : Array Value) (t : TypeId) (n : Nat) (hn : c.size = n) : HasN ((w.alloc A).alloc (.cells c t)) (w.heap.size + 1) n t := by
  have := HasN.new (w.alloc A) c t n hn
  simpa using this
theorem HasN.new2 (w : World) (A B : Obj) (c : Array Value) (t : TypeId) (n : Nat) (hn : c.size = n) : HasN (((w.alloc A).alloc B).alloc (.cells c t)) (w.heap.size + 1 + 1) n t := by
  have := HasN.new ((w.alloc A).alloc B) c t n hn
  simpa using this
theorem HasN.new3 (w : World) (A B C : Obj) (c : Array Value) (t : TypeId) (n : Nat) (hn : c.size = n) : HasN ((((w.alloc A).alloc B).alloc C).alloc (.cells c t)) (w.heap.size + 1 + 1 + 1) n t := by
  have := HasN.new (((w.alloc A).alloc B).alloc C) c t n hn
  simpa using this
theorem HasN.lt (h : HasN w b n t) : b < w.heap.size := let ⟨_, _, h⟩ := h; h.lt
theorem HasN.other (h : HasN w b n t) (a : Addr) (v : Value) (hb : b ≠ a.block) : HasN (w.setCell a v) b n t := let ⟨c, hn, h⟩ := h; ⟨c, hn, h.other a v hb⟩
theorem HasN.drewN (h : HasN w b n t) (k : Nat) : HasN (w.drewN k) b n t := h
theorem HasN.drew (h : HasN w b n t) : HasN w.drew b n t := h
theorem HasN.alloc (h : HasN w b n t) (o : Obj) : HasN (w.alloc o) b n t := let ⟨c, hn, h⟩ := h; ⟨c, hn, h.alloc o⟩
theorem HasN.below {B : Nat} (h : HasN w b n t) (hb : Below B w w') (hB : b < B) : HasN w' b n t := let ⟨c, hn, h⟩ := h; ⟨c, hn, h.below hb hB⟩
theorem HasN.setRow_other (h : HasN w b n t) (g : Nat) (c' : Array Value) (hg : b ≠ g) : HasN (w.setRow g c') b n t := let ⟨c, hn, h⟩ := h; ⟨c, hn, h.setRow_other g c' hg⟩
end hasn
theorem below_1 (w : World) (A : Obj) : Below w.heap.size w (w.alloc A) := (Below.refl _ _).alloc (Nat.le_refl _) _
theorem below_2 (w : World) (A B : Obj) : Below w.heap.size w ((w.alloc A).alloc B) := (below_1 w A).alloc (by simp) _
theorem below_3 (w : World) (A B C : Obj) : Below w.heap.size w (((w.alloc A).alloc B).alloc C) := (below_2 w A B).alloc (by simp; omega) _
theorem below_4 (w : World) (A B C D : Obj) : Below w.heap.size w ((((w.alloc A).alloc B).alloc C).alloc D) := (below_3 w A B C).alloc (by simp; omega) _
theorem below_drewN {B : Nat} {a w : World} (h : Below B a w) (n : Nat) : Below B a (w.drewN n) := ⟨h.os, h.tape, h.output, h.size, h.block⟩
theorem below_setRow {B : Nat} {a w : World} (h : Below B a w) (g : Nat) (c : Array Value) (hg : B ≤ g) : Below B a (w.setRow g c) :=
  h.trans ⟨rfl, rfl, rfl, by simp, fun k hk => setRow_other w g k c (by omega)⟩

/-- behind one call more -/
theorem held_next {w4 W w1 : World} (h : Below w4.heap.size w4 W) (hb : Below W.heap.size W w1) : Below w4.heap.size w4 w1 := h.trans (hb.mono h.size)
theorem Has.call {W w1 : World} {b : Nat} {c : Array Value} {t : TypeId} (h : Has W b c t) (hb : Below W.heap.size W w1) : Has w1 b c t := h.below hb h.lt
theorem HasN.call {W w1 : World} {b n : Nat} {t : TypeId} (h : HasN W b n t) (hb : Below W.heap.size W w1) : HasN w1 b n t := h.below hb h.lt
theorem range_below {w4 w1 : World} {b o : Nat} {l : List Value} (hR : w4.rangeAt b o l) (h : Below w4.heap.size w4 w1) (hlt : b < w4.heap.size) : w1.rangeAt b o l := fun j v hv =>
  (h.cell (p := ⟨b, o + j, none⟩) hlt).trans (hR j v hv)
theorem there_below {w4 w1 : World} {b o n : Nat} (hR : w4.there b o n) (h : Below w4.heap.size w4 w1) (hlt : b < w4.heap.size) : w1.there b o n := fun j hj => by
  have := hR j hj
  rwa [h.cell (p := ⟨b, o + j, none⟩) hlt, h.frozen (p := ⟨b, o + j, none⟩) hlt]
theorem HasN.there {w : World} {b n : Nat} {t : TypeId} (h : HasN w b n t) : w.there b 0 n := fun j hj => by
  obtain ⟨c, hn, h⟩ := h
  rw [h.cellAt, h.frozen]
  simp [hn, hj]
theorem rowl_one (kd : IntKind) (k : Nat) (f : Nat → Int) : ∀ v ∈ rowl kd k f, v.oneCell' = true := by
  simp [rowl, Value.oneCell']
theorem setCells_nil (w : World) (b o : Nat) : w.setCells b o [] = w := rfl
theorem Has.setCells {w : World} {b : Nat} {t : TypeId} (l : List Value) : ∀ (c : Array Value) (o : Nat), Has w b c t → o + l.length ≤ c.size → Has (w.setCells b o l) b (c.toList.take o ++ l ++ c.toList.drop (o + l.length)).toArray t := by
  induction l generalizing w with
  | nil => intro c o h hl; simpa [World.setCells] using h
  | cons v l ih =>
    intro c o h hl
    simp only [World.setCells]
    have h1 := ih (c.setIfInBounds o v) (o + 1) (h.setAt o v) (by simp at hl ⊢; omega)
    have e : (c.setIfInBounds o v).toList.take (o + 1) ++ l ++ (c.setIfInBounds o v).toList.drop (o + 1 + l.length) = c.toList.take o ++ (v :: l) ++ c.toList.drop (o + (v :: l).length) := by
      have hlt : o < c.toList.length := by simp at hl ⊢; omega
      rw [Array.toList_setIfInBounds]
      generalize c.toList = xs at *
      have e1 : (xs.set o v).take (o + 1) = xs.take o ++ [v] := by
        rw [List.take_succ_eq_append_getElem (by simpa using hlt), List.take_set_of_le (Nat.le_refl _)]
        simp
      have e2 : (xs.set o v).drop (o + 1 + l.length) = xs.drop (o + 1 + l.length) := List.drop_set_of_lt (by omega)
      rw [e1, e2]
      simp [Nat.add_comm, Nat.add_left_comm]
    rw [← e]; exact h1
theorem Has.setCells_all {w : World} {b : Nat} {c : Array Value} {t : TypeId} (h : Has w b c t) (l : List Value) (hl : l.length = c.size) : Has (w.setCells b 0 l) b l.toArray t := by
  have := Has.setCells l c 0 h (by omega)
  have e : List.drop c.size c.toList = [] := by simp
  simpa [hl, e] using this
theorem HasN.setCells_all {w : World} {b n : Nat} {t : TypeId} (h : HasN w b n t) (l : List Value) (hl : l.length = n) : Has (w.setCells b 0 l) b l.toArray t := by
  obtain ⟨c, hn, h⟩ := h
  exact h.setCells_all l (by omega)
theorem heap_setCells_other (b : Nat) (l : List Value) : ∀ (w : World) (o k : Nat), k ≠ b → (w.setCells b o l).heap[k]? = w.heap[k]? := by
  induction l with
  | nil => intro w o k _; rfl
  | cons v l ih => intro w o k hk; simp only [World.setCells]; rw [ih _ _ _ hk]; exact heap_setCell_other w ⟨b, o, none⟩ k v hk
theorem Has.setCells_other {w : World} {b : Nat} {c : Array Value} {t : TypeId} (h : Has w b c t) (g o : Nat) (l : List Value) (hb : b ≠ g) : Has (w.setCells g o l) b c t := (heap_setCells_other g l w o b hb).trans h
theorem HasN.setCells_other {w : World} {b n : Nat} {t : TypeId} (h : HasN w b n t) (g o : Nat) (l : List Value) (hb : b ≠ g) : HasN (w.setCells g o l) b n t := let ⟨c, hn, h⟩ := h; ⟨c, hn, h.setCells_other g o l hb⟩
theorem below_setCells {B : Nat} {a : World} (g : Nat) (hg : B ≤ g) (l : List Value) : ∀ (w : World) (o : Nat), Below B a w → Below B a (w.setCells g o l) := by
  induction l with
  | nil => intro w o h; exact h
  | cons v l ih => intro w o h; simp only [World.setCells]; exact ih _ _ (h.setCell hg v)

/-- the sum of the figures below n, to the base B -/
def sumf (B : Int) (f : Nat → Int) : Nat → Int
  | 0 => 0
  | n + 1 => sumf B f n + f n * B ^ n
theorem sumf_congr (B : Int) (f g : Nat → Int) (n : Nat) (h : ∀ i, i < n → f i = g i) : sumf B f n = sumf B g n := by
  induction n with
  | zero => rfl
  | succ n ih => simp only [sumf]; rw [ih (fun i hi => h i (by omega)), h n (by omega)]
theorem sumf_upd_above (B : Int) (f : Nat → Int) (n i : Nat) (x : Int) (h : n ≤ i) : sumf B (upd f i x) n = sumf B f n :=
  sumf_congr B _ _ n fun j hj => upd_ne f i j x (by omega)
theorem sumf_upd (B : Int) (f : Nat → Int) (n i : Nat) (x : Int) (h : i < n) : sumf B (upd f i x) n = sumf B f n + (x - f i) * B ^ i := by
  induction n with
  | zero => omega
  | succ n ih =>
    simp only [sumf]
    by_cases hi : i = n
    · subst hi
      rw [sumf_upd_above B f i i x (Nat.le_refl _), upd_same, Int.sub_mul]; omega
    · rw [ih (by omega), upd_ne f i n x (by omega)]; omega
theorem sumf_zero (B : Int) (f : Nat → Int) (n : Nat) (h : ∀ i, i < n → f i = 0) : sumf B f n = 0 := by
  induction n with
  | zero => rfl
  | succ n ih => simp only [sumf]; rw [ih (fun i hi => h i (by omega)), h n (by omega)]; simp
theorem sumf_nonneg (B : Int) (hB : 0 < B) (f : Nat → Int) (n : Nat) (h : ∀ i, i < n → 0 ≤ f i) : 0 ≤ sumf B f n := by
  induction n with
  | zero => simp [sumf]
  | succ n ih =>
    simp only [sumf]
    have h1 := ih (fun i hi => h i (by omega))
    have h2 : 0 ≤ f n * B ^ n := Int.mul_nonneg (h n (by omega)) (Int.le_of_lt (Int.pow_pos hB))
    omega
theorem sumf_lt (B : Int) (hB : 0 < B) (f : Nat → Int) (n : Nat) (h : ∀ i, i < n → f i < B) : sumf B f n < B ^ n := by
  induction n with
  | zero => simp [sumf]
  | succ n ih =>
    simp only [sumf]
    have h1 := ih (fun i hi => h i (by omega))
    have h2 : f n * B ^ n ≤ (B - 1) * B ^ n := Int.mul_le_mul_of_nonneg_right (by have := h n (by omega); omega) (Int.le_of_lt (Int.pow_pos hB))
    rw [Int.sub_mul] at h2
    rw [Int.pow_succ, Int.mul_comm (B ^ n) B]
    omega
/-- figure i of n to the base B -/
def dg (B n i : Nat) : Int := ((n / B ^ i % B : Nat) : Int)
theorem dg_bd (B n i : Nat) (hB : 0 < B) : 0 ≤ dg B n i ∧ dg B n i < B := by
  unfold dg
  have := Nat.mod_lt (n / B ^ i) hB
  omega
theorem sumf_dg (B n k : Nat) : sumf (B : Int) (dg B n) k = ((n % B ^ k : Nat) : Int) := by
  induction k with
  | zero => simp [sumf, Nat.mod_one]
  | succ k ih =>
    simp only [sumf]
    rw [ih, dg, Nat.pow_succ, Nat.mod_mul, ← Int.natCast_pow, Int.mul_comm, ← Int.natCast_mul, ← Int.natCast_add]
theorem sumf_uniq (B : Nat) (f : Nat → Int) (n k : Nat) (hf : ∀ i, i < k → 0 ≤ f i ∧ f i < B) (h : sumf (B : Int) f k = n) : ∀ i, i < k → f i = dg B n i := by
  induction k generalizing n with
  | zero => intro i hi; omega
  | succ k ih =>
    intro i hi
    have hB : 0 < (B : Int) := by have := hf k (by omega); omega
    have hBk : (0 : Int) < (B : Int) ^ k := Int.pow_pos hB
    simp only [sumf] at h
    have h1 := sumf_nonneg B hB f k (fun i hi => (hf i (by omega)).1)
    have h2 := sumf_lt B hB f k (fun i hi => (hf i (by omega)).2)
    have hk := hf k (by omega)
    obtain ⟨s, hs⟩ := Int.eq_ofNat_of_zero_le h1
    obtain ⟨d, hd⟩ := Int.eq_ofNat_of_zero_le hk.1
    rw [hs, hd] at h
    rw [hs] at h2
    rw [← Int.natCast_pow] at h h2
    have h' : s + d * B ^ k = n := by
      have : ((s + d * B ^ k : Nat) : Int) = (n : Int) := by rw [Int.natCast_add, Int.natCast_mul]; exact h
      omega
    have h2' : s < B ^ k := by omega
    have hpos : 0 < B ^ k := by omega
    by_cases hik : i = k
    · subst hik
      rw [hd, dg, ← h', Nat.add_mul_div_right _ _ hpos, Nat.div_eq_of_lt h2', Nat.zero_add, Nat.mod_eq_of_lt (by omega)]
    · rw [ih s (fun i hi => hf i (by omega)) hs i (by omega), dg, dg, ← h']
      have e : B ^ k = B ^ i * B * B ^ (k - i - 1) := by rw [← Nat.pow_succ, ← Nat.pow_add]; congr 1; omega
      rw [e, show d * (B ^ i * B * B ^ (k - i - 1)) = B ^ i * (B * (d * B ^ (k - i - 1))) by ac_rfl, Nat.add_mul_div_left _ _ (Nat.pow_pos (by omega)), Nat.add_mul_mod_self_left]
end Go.Proofs.Ytjiagjonlcadiaa
