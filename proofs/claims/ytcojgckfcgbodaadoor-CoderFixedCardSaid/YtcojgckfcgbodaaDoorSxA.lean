/- Symbolic steps, first part: what the slots hold as a list, what the world holds as a list of blocks, and which conditions an operation has. -/
import Derived.Below
import Derived.Orders
import Derived.Tactics
import Derived.Laws.Rows
import Derived.Laws.Tables
import Derived.Deep.MidRow
namespace Go.Sx
open Go Go.RowKit

/-- what the slots hold, later ones first -/
abbrev Fr := List (Nat × Value)
def find : Fr → Nat → (Value → Prop) → Prop
  | [], _, _ => False
  | p :: σ, i, k => cond (Nat.beq p.1 i) (k p.2) (find σ i k)
def get : Fr → Nat → Option Value
  | [], _ => none
  | p :: σ, i => cond (Nat.beq p.1 i) (some p.2) (get σ i)
theorem find_get (σ : Fr) (i : Nat) (k : Value → Prop) (h : find σ i k) : ∃ v, get σ i = some v ∧ k v := by
  induction σ with
  | nil => exact h.elim
  | cons p σ ih =>
    simp only [find, get] at *
    cases hb : Nat.beq p.1 i
    · rw [hb] at h; exact ih h
    · rw [hb] at h; exact ⟨p.2, rfl, h⟩
def ev (σ : Fr) : Operand → (Value → Prop) → Prop
  | .tmp t, k => find σ t k
  | .const v, k => k v
  | .global g, k => k (.pointer (some ⟨g, 0, none⟩))
  | .func f, k => k (.func (.func f) #[] #[])
def evs (σ : Fr) : List Operand → (List Value → Prop) → Prop
  | [], k => k []
  | x :: l, k => ev σ x fun v => evs σ l fun vs => k (v :: vs)
/-- what the operands are -/
def Fit (σ : Fr) (ρ : Operand → Value) : Prop := ∀ x k, ev σ x k → k (ρ x)
theorem Fit.evs {σ : Fr} {ρ : Operand → Value} (h : Fit σ ρ) (l : List Operand) (k : List Value → Prop) (hk : evs σ l k) : k (l.map ρ) := by
  induction l generalizing k with
  | nil => exact hk
  | cons x l ih =>
    have h1 := h x _ hk
    exact ih (fun vs => k (ρ x :: vs)) h1

/-- a block and what it holds (none: nothing is said); ro: it is only read -/
structure Ent where
  b : Nat
  o : Option Obj
  ro : Bool := false
abbrev cl (b : Nat) (c : Array Value) (t : TypeId) : Ent := ⟨b, some (.cells c t (0, 0)), false⟩
abbrev cr (b : Nat) (c : Array Value) (t : TypeId) : Ent := ⟨b, some (.cells c t (0, 0)), true⟩
abbrev dead : Ent := ⟨0, none, false⟩
def Apart (x y : Ent) : Prop := x.o.isSome = true → y.o.isSome = true → x.b ≠ y.b
/-- as the world stands: B: as it stood when the function began; M: old blocks that may have turned -/
structure St (M : List Nat) (B w : World) (L : List Ent) : Prop where
  os : w.os = B.os
  tape : w.tape = B.tape
  output : w.output = B.output
  size : B.heap.size ≤ w.heap.size
  old : ∀ k, k < B.heap.size → k ∉ M → w.heap[k]? = B.heap[k]?
  has : ∀ e ∈ L, ∀ o, e.o = some o → w.heap[e.b]? = some o
  own : ∀ e ∈ L, e.o.isSome = true → e.ro = false → B.heap.size ≤ e.b ∨ e.b ∈ M
  apart : L.Pairwise Apart

section st
variable {M : List Nat} {B w w' : World} {L : List Ent}
theorem St.start (w : World) : St [] w w [] := ⟨rfl, rfl, rfl, Nat.le_refl _, fun _ _ _ => rfl, by simp, by simp, .nil⟩
theorem St.below (h : St [] B w L) : Below B.heap.size B w := ⟨h.os, h.tape, h.output, h.size, fun k hk => h.old k hk (by simp)⟩
theorem St.nth (h : St M B w L) {k b : Nat} {o : Obj} {r : Bool} (hk : L[k]? = some ⟨b, some o, r⟩) : w.heap[b]? = some o := h.has _ (List.mem_of_getElem? hk) o rfl
theorem St.lt (h : St M B w L) {e : Ent} (he : e ∈ L) (hs : e.o.isSome = true) : e.b < w.heap.size := by
  obtain ⟨o, ho⟩ := Option.isSome_iff_exists.1 hs
  exact (Array.getElem?_eq_some_iff.1 (h.has e he o ho)).1
theorem St.call (h : St M B w L) (hb : Below w.heap.size w w') : St M B w' L :=
  ⟨hb.os.trans h.os, hb.tape.trans h.tape, hb.output.trans h.output, Nat.le_trans h.size hb.size, fun k hk hm => (hb.block k (Nat.lt_of_lt_of_le hk h.size)).trans (h.old k hk hm),
   fun e he o ho => (hb.block e.b (h.lt he (by simp [ho]))).trans (h.has e he o ho), h.own, h.apart⟩
theorem St.drew (h : St M B w L) : St M B w.drew L := ⟨h.os, h.tape, h.output, h.size, h.old, h.has, h.own, h.apart⟩
/-- blocks made behind it are apart from those that were there -/
theorem St.add (h : St M B w L) (hb : Below w.heap.size w w') {b : Nat} {o : Obj} (hbn : w.heap.size ≤ b) (ho : w'.heap[b]? = some o) : St M B w' (L ++ [⟨b, some o, false⟩]) := by
  have h' := h.call hb
  refine ⟨h'.os, h'.tape, h'.output, h'.size, h'.old, ?_, ?_, ?_⟩
  · intro e he o' ho'
    rcases List.mem_append.1 he with he | he
    · exact h'.has e he o' ho'
    · obtain rfl : e = ⟨b, some o, false⟩ := by simpa using he
      obtain rfl := Option.some.inj ho'
      exact ho
  · intro e he hs hr
    rcases List.mem_append.1 he with he | he
    · exact h'.own e he hs hr
    · obtain rfl : e = ⟨b, some o, false⟩ := by simpa using he
      exact .inl (Nat.le_trans h.size hbn)
  · refine List.pairwise_append.2 ⟨h'.apart, by simp, ?_⟩
    intro x hx y hy hsx _
    obtain rfl : y = ⟨b, some o, false⟩ := by simpa using hy
    have := h.lt hx hsx
    simp; omega
theorem below_alloc1 (w : World) (o : Obj) : Below w.heap.size w (w.alloc o) := (Below.refl _ _).alloc (Nat.le_refl _) _
theorem St.alloc (h : St M B w L) (o : Obj) : St M B (w.alloc o) (L ++ [⟨w.heap.size, some o, false⟩]) := h.add (below_alloc1 w o) (Nat.le_refl _) (heap_alloc_new w o)
theorem Apart.symm {x y : Ent} (h : Apart x y) : Apart y x := fun h1 h2 e => h h2 h1 e.symm
theorem pw_ne {L : List Ent} (h : L.Pairwise Apart) {i j : Nat} {e f : Ent} (hi : L[i]? = some e) (hj : L[j]? = some f) (hij : i ≠ j) : Apart e f := by
  obtain ⟨hi1, rfl⟩ := List.getElem?_eq_some_iff.1 hi
  obtain ⟨hj1, rfl⟩ := List.getElem?_eq_some_iff.1 hj
  have hp := List.pairwise_iff_getElem.1 h
  rcases Nat.lt_or_gt_of_ne hij with h1 | h1
  · exact hp i j hi1 hj1 h1
  · exact (hp j i hj1 hi1 h1).symm
theorem pw_set {L : List Ent} (h : L.Pairwise Apart) {k : Nat} {e : Ent} (he : ∀ i f, i ≠ k → L[i]? = some f → Apart e f) : (L.set k e).Pairwise Apart := by
  rw [List.pairwise_iff_getElem]
  intro i j hi hj hij
  simp only [List.length_set] at hi hj
  have hp := List.pairwise_iff_getElem.1 h i j hi hj hij
  simp only [List.getElem_set]
  split <;> split
  · omega
  · rename_i h1 h2; exact he j _ (by omega) (by simp [hj])
  · rename_i h1 h2; exact (he i _ (by omega) (by simp [hi])).symm
  · exact hp
theorem mem_set_cases {L : List Ent} {k : Nat} {e f : Ent} (hf : f ∈ L.set k e) : f = e ∨ ∃ i, i ≠ k ∧ L[i]? = some f := by
  obtain ⟨i, hi⟩ := List.mem_iff_getElem?.1 hf
  rw [List.getElem?_set] at hi
  by_cases hik : k = i
  · rw [if_pos hik] at hi
    split at hi
    · exact .inl (Option.some.inj hi).symm
    · cases hi
  · rw [if_neg hik] at hi; exact .inr ⟨i, fun e => hik e.symm, hi⟩
/-- one block has turned, and nothing else that was there -/
theorem St.set (h : St M B w L) {k b : Nat} {o : Obj} (hk : L[k]? = some ⟨b, some o, false⟩) {o' : Obj} (hs : w.heap.size ≤ w'.heap.size) (ho : w'.heap[b]? = some o')
    (hoth : ∀ j, j < w.heap.size → j ≠ b → w'.heap[j]? = w.heap[j]?) (h1 : w'.os = w.os) (h2 : w'.tape = w.tape) (h3 : w'.output = w.output) : St M B w' (L.set k ⟨b, some o', false⟩) := by
  have hown := h.own _ (List.mem_of_getElem? hk) rfl rfl
  refine ⟨h1.trans h.os, h2.trans h.tape, h3.trans h.output, Nat.le_trans h.size hs, ?_, ?_, ?_, ?_⟩
  · intro j hj hm
    refine (hoth j (Nat.lt_of_lt_of_le hj h.size) ?_).trans (h.old j hj hm)
    rintro rfl
    rcases hown with h' | h'
    · have h'' : B.heap.size ≤ j := h'
      omega
    · exact hm h'
  · intro f hf of hof
    rcases mem_set_cases hf with rfl | ⟨i, hik, hi⟩
    · obtain rfl := Option.some.inj hof; exact ho
    · have hfl := h.has f (List.mem_of_getElem? hi) of hof
      exact (hoth f.b (Array.getElem?_eq_some_iff.1 hfl).1 (pw_ne h.apart hi hk hik (by simp [hof]) rfl)).trans hfl
  · intro f hf hfs hfr
    rcases mem_set_cases hf with rfl | ⟨i, hik, hi⟩
    · exact hown
    · exact h.own f (List.mem_of_getElem? hi) hfs hfr
  · refine pw_set h.apart fun i f hik hi _ hs => ?_
    have := pw_ne h.apart hk hi (fun e => hik e.symm) rfl hs
    exact this
/-- an entry is given up for a block that is new -/
theorem St.swap (h : St M B w L) (k : Nat) (hb : Below w.heap.size w w') {b : Nat} {o : Obj} (hbn : w.heap.size ≤ b) (ho : w'.heap[b]? = some o) : St M B w' (L.set k ⟨b, some o, false⟩) := by
  have h' := h.call hb
  refine ⟨h'.os, h'.tape, h'.output, h'.size, h'.old, ?_, ?_, ?_⟩
  · intro f hf of hof
    rcases mem_set_cases hf with rfl | ⟨i, hik, hi⟩
    · obtain rfl := Option.some.inj hof; exact ho
    · exact h'.has f (List.mem_of_getElem? hi) of hof
  · intro f hf hfs hfr
    rcases mem_set_cases hf with rfl | ⟨i, hik, hi⟩
    · exact .inl (Nat.le_trans h.size hbn)
    · exact h'.own f (List.mem_of_getElem? hi) hfs hfr
  · refine pw_set h'.apart fun i f hik hi _ hs => ?_
    have := h.lt (List.mem_of_getElem? hi) hs
    simp; omega
/-- an entry is given up -/
theorem St.kill (h : St M B w L) (k : Nat) : St M B w (L.set k dead) := by
  refine ⟨h.os, h.tape, h.output, h.size, h.old, ?_, ?_, ?_⟩
  · intro f hf of hof
    rcases mem_set_cases hf with rfl | ⟨i, hik, hi⟩
    · cases hof
    · exact h.has f (List.mem_of_getElem? hi) of hof
  · intro f hf hfs hfr
    rcases mem_set_cases hf with rfl | ⟨i, hik, hi⟩
    · cases hfs
    · exact h.own f (List.mem_of_getElem? hi) hfs hfr
  · exact pw_set h.apart fun i f hik hi h1 _ => by cases h1
theorem St.setRow (h : St M B w L) {k b : Nat} {c : Array Value} {t : TypeId} (hk : L[k]? = some (cl b c t)) (c' : Array Value) : St M B (w.setRow b c') (L.set k (cl b c' t)) :=
  h.set hk (by simp) (setRow_heap w b c c' t _ (h.nth hk)) (fun j _ hj => setRow_other w b j c' hj) rfl rfl rfl
theorem St.setCell (h : St M B w L) {k b : Nat} {c : Array Value} {t : TypeId} (hk : L[k]? = some (cl b c t)) (i : Nat) (v : Value) : St M B (w.setCell ⟨b, i, none⟩ v) (L.set k (cl b (c.setIfInBounds i v) t)) :=
  h.set hk (by simp [World.setCell]) (heap_setCell_same w b i c t v (h.nth hk)) (fun j _ hj => heap_setCell_other w ⟨b, i, none⟩ j v hj) rfl rfl rfl
/-- fewer blocks are known -/
inductive Sub : List Ent → List Ent → Prop
  | nil {l} : Sub [] l
  | cons {e l l'} : Sub l l' → Sub (e :: l) (e :: l')
  | dead {e l l'} : Sub l l' → Sub (dead :: l) (e :: l')
  | drop {e l l'} : Sub l l' → Sub l (e :: l')
  | pad {l l'} : Sub l l' → Sub (dead :: l) l'
theorem Sub.mem {l l' : List Ent} (h : Sub l l') : ∀ e ∈ l, e = Sx.dead ∨ e ∈ l' := by
  induction h with
  | nil => simp
  | cons h ih =>
    intro e he
    rcases List.mem_cons.1 he with rfl | he
    · exact .inr List.mem_cons_self
    · exact (ih e he).imp id (List.mem_cons_of_mem _)
  | dead h ih =>
    intro e he
    rcases List.mem_cons.1 he with rfl | he
    · exact .inl rfl
    · exact (ih e he).imp id (List.mem_cons_of_mem _)
  | drop h ih => intro e he; exact (ih e he).imp id (List.mem_cons_of_mem _)
  | pad h ih =>
    intro e he
    rcases List.mem_cons.1 he with rfl | he
    · exact .inl rfl
    · exact ih e he
theorem Sub.refl (l : List Ent) : Sub l l := by
  induction l with
  | nil => exact .nil
  | cons e l ih => exact .cons ih
theorem dead_apart (e : Ent) : Apart dead e := fun h => by cases h
theorem Sub.pair {l l' : List Ent} (h : Sub l l') (hp : l'.Pairwise Apart) : l.Pairwise Apart := by
  induction h with
  | nil => exact .nil
  | cons h ih =>
    cases hp with
    | cons h1 h2 =>
      refine .cons (fun y hy => ?_) (ih h2)
      rcases h.mem y hy with rfl | hy
      · exact (dead_apart _).symm
      · exact h1 y hy
  | dead h ih => cases hp with | cons h1 h2 => exact .cons (fun y _ => dead_apart y) (ih h2)
  | drop h ih => cases hp with | cons h1 h2 => exact ih h2
  | pad h ih => exact .cons (fun y _ => dead_apart y) (ih hp)
theorem St.sub {L' : List Ent} (h : St M B w L) (hs : Sub L' L) : St M B w L' :=
  ⟨h.os, h.tape, h.output, h.size, h.old, fun e he o ho => (by rcases hs.mem e he with rfl | he; cases ho; exact h.has e he o ho), fun e he h1 h2 => (by rcases hs.mem e he with rfl | he; cases h1; exact h.own e he h1 h2), hs.pair h.apart⟩
theorem St.cell (h : St M B w L) {k b : Nat} {c : Array Value} {t : TypeId} {fz : Nat × Nat} {ro : Bool} (hk : L[k]? = some ⟨b, some (.cells c t fz), ro⟩) (i : Nat) : w.cell? ⟨b, i, none⟩ = c[i]? := cell_of_row w b i c t _ (h.nth hk)
end st

/-- what is known of a type: its kind, its cells -/
inductive Ty where
  | int (k : IntKind) | str | bool | ptr | fn | ifc
  | sl (e n : Nat) | arr (len e n : Nat) (agg : Bool)
  | st (fs : List (Nat × Nat × Bool))
  | map (k e : Nat)
  | up
structure Row where
  t : Nat
  y : Ty
  n : Nat
/-- the tables of a program -/
structure Tab where
  rows : List Row
  zero : List (Nat × Array Value)
  fns : Nat
  ext : List Nat
def Ty.agg : Ty → Bool
  | .arr .. | .st _ => true
  | _ => false
def descAgg : Option TypeDesc → Bool
  | some (.struct _) | some (.array _ _) => true
  | _ => false
def sizeIs (P : Program) (t n : Nat) : Bool := (P.info? t).map (·.size) == some n
def fieldOk (P : Program) (q : (Nat × Nat × Bool) × Field) : Bool := q.1.1 == q.2.offset && sizeIs P q.2.type q.1.2.1 && q.1.2.1 != 0 && (descAgg (P.underlying q.2.type) == q.1.2.2) && (P.underlying q.2.type).isSome
def rowOk (P : Program) (r : Row) : Bool := sizeIs P r.t r.n && match r.y, P.underlying r.t with
  | .int k, some (.int k') => k == k'
  | .str, some .string => true
  | .bool, some .bool => true
  | .ptr, some (.pointer _) => true
  | .fn, some (.func ..) => true
  | .ifc, some (.interface _) => true
  | .sl e n, some (.slice e') => e == e' && sizeIs P e n
  | .arr len e n g, some (.array len' e') => len == len' && e == e' && sizeIs P e n && (descAgg (P.underlying e') == g) && (P.underlying e').isSome
  | .st fs, some (.struct fields) => fs.length == fields.size && (fs.zip fields.toList).all (fieldOk P)
  | .map k e, some (.map k' e') => k == k' && e == e'
  | .up, some .unsafePointer => true
  | _, _ => false
def entOk (P : Program) (g : Nat) : Bool := match P.funcs[g]? with
  | some fn => !(fn.name == "runtime.NumGoroutine") && fn.body.isSome
  | none => false
def zeroOk (P : Program) : List (Nat × Array Value) → Prop
  | [] => True
  | z :: l => (P.info? z.1).bind (fun i => i.zero.map (·.cells)) = some z.2 ∧ zeroOk P l
structure TabOk (P : Program) (T : Tab) : Prop where
  rows : T.rows.all (rowOk P) = true
  fns : (List.range T.fns).all (fun g => T.ext.contains g || entOk P g) = true
  zero : zeroOk P T.zero
def look : List Row → Nat → (Ty → Nat → Prop) → Prop
  | [], _, _ => False
  | r :: l, t, k => cond (Nat.beq r.t t) (k r.y r.n) (look l t k)
theorem look_row (l : List Row) (t : Nat) (k : Ty → Nat → Prop) (h : look l t k) : ∃ r ∈ l, r.t = t ∧ k r.y r.n := by
  induction l with
  | nil => exact h.elim
  | cons r l ih =>
    simp only [look] at h
    cases hb : Nat.beq r.t t
    · rw [hb] at h; obtain ⟨r', h1, h2⟩ := ih h; exact ⟨r', List.mem_cons_of_mem _ h1, h2⟩
    · rw [hb] at h; exact ⟨r, List.mem_cons_self, Nat.eq_of_beq_eq_true hb, h⟩
def zof : List (Nat × Array Value) → Nat → (Array Value → Prop) → Prop
  | [], _, _ => False
  | r :: l, t, k => cond (Nat.beq r.1 t) (k r.2) (zof l t k)
theorem zof_ok {P : Program} (l : List (Nat × Array Value)) (hz : zeroOk P l) (t : Nat) (k : Array Value → Prop) (h : zof l t k) : ∃ c, (P.info? t).bind (fun i => i.zero.map (·.cells)) = some c ∧ k c := by
  induction l with
  | nil => exact h.elim
  | cons r l ih =>
    simp only [zof] at h
    cases hb : Nat.beq r.1 t
    · rw [hb] at h; exact ih hz.2 h
    · rw [hb] at h; exact ⟨r.2, Nat.eq_of_beq_eq_true hb ▸ hz.1, h⟩
def lookup_n {α : Type} : List α → Nat → (α → Prop) → Prop
  | [], _, _ => False
  | x :: _, 0, k => k x
  | _ :: l, n + 1, k => lookup_n l n k
theorem lookup_n_spec {α : Type} (l : List α) (n : Nat) (k : α → Prop) (h : lookup_n l n k) : ∃ x, l[n]? = some x ∧ k x := by
  induction l generalizing n with
  | nil => cases n <;> exact h.elim
  | cons x l ih =>
    cases n with
    | zero => exact ⟨x, rfl, h⟩
    | succ n => exact ih n h

/-- a number, and what it wraps to -/
def modk : IntKind → Int → Int
  | .u8, r => r % 256
  | .u16, r => r % 65536
  | .u32, r => r % 4294967296
  | .u64, r => r % 18446744073709551616
  | k, r => k.wrap r
def mn : IntKind → Int
  | .i8 => -128 | .i16 => -32768 | .i32 => -2147483648 | .i64 => -9223372036854775808 | _ => 0
def mx : IntKind → Int
  | .i8 => 127 | .i16 => 32767 | .i32 => 2147483647 | .i64 => 9223372036854775807 | .u8 => 255 | .u16 => 65535 | .u32 => 4294967295 | .u64 => 18446744073709551615
inductive Wr (k : IntKind) (r : Int) (next : Value → Prop) : Prop
  | same (lo : mn k ≤ r) (hi : r ≤ mx k) (go : next (.int k r))
  | mod (go : next (.int k (modk k r)))
  | as (r' : Int) (e : r = r') (lo : mn k ≤ r') (hi : r' ≤ mx k) (go : next (.int k r'))
  | to (r' : Int) (e : modk k r = r') (go : next (.int k r'))
structure DivP (k : IntKind) (x y : Int) (p : Prop) : Prop where
  x0 : 0 ≤ x
  x1 : x ≤ mx k
  y0 : 0 < y
  go : p
structure ShP (y : Int) (p : Prop) : Prop where
  y0 : 0 ≤ y
  go : p
def bitI (op : BinOp) (k : IntKind) (x y : Int) : Int := match op with
  | .and => k.wrap (BitVec.ofInt k.bits x &&& BitVec.ofInt k.bits y).toNat
  | .or => k.wrap (BitVec.ofInt k.bits x ||| BitVec.ofInt k.bits y).toNat
  | .xor => k.wrap (BitVec.ofInt k.bits x ^^^ BitVec.ofInt k.bits y).toNat
  | _ => k.wrap (BitVec.ofInt k.bits x &&& ~~~BitVec.ofInt k.bits y).toNat
def notI (k : IntKind) (x : Int) : Int := bitI .xor k (if k.signed then -1 else k.max) x
structure CatP (a b : ByteArray) (p : Prop) : Prop where
  h : ((a.size + b.size : Nat) : Int) ≤ 9223372036854775807
  go : p
/-- two numbers -/
def intV (op : BinOp) (k : IntKind) (x y : Int) (next : Value → Prop) : Prop := match op with
  | .add => Wr k (x + y) next
  | .sub => Wr k (x - y) next
  | .mul => Wr k (x * y) next
  | .quo => DivP k x y (next (.int k (x / y)))
  | .rem => DivP k x y (next (.int k (x % y)))
  | .and => next (.int k (bitI .and k x y))
  | .or => next (.int k (bitI .or k x y))
  | .xor => next (.int k (bitI .xor k x y))
  | .andNot => next (.int k (bitI .andNot k x y))
  | .eql => next (.bool (x == y))
  | .neq => next (.bool (x != y))
  | .lss => next (.bool (decide (x < y)))
  | .leq => next (.bool (decide (x ≤ y)))
  | .gtr => next (.bool (decide (x > y)))
  | .geq => next (.bool (decide (x ≥ y)))
  | _ => False
def strV (op : BinOp) (a b : ByteArray) (next : Value → Prop) : Prop := match op with
  | .add => CatP a b (next (.string (a ++ b)))
  | .eql => next (.bool (a.toList == b.toList))
  | .neq => next (.bool (!(a.toList == b.toList)))
  | .lss => next (.bool (Op.bytesLess a.toList b.toList))
  | .leq => next (.bool (Op.bytesLess a.toList b.toList || a.toList == b.toList))
  | .gtr => next (.bool (!(Op.bytesLess a.toList b.toList || a.toList == b.toList)))
  | .geq => next (.bool (!Op.bytesLess a.toList b.toList))
  | _ => False
def keq : IntKind → IntKind → Bool
  | .i8, .i8 | .i16, .i16 | .i32, .i32 | .i64, .i64 | .u8, .u8 | .u16, .u16 | .u32, .u32 | .u64, .u64 => true
  | _, _ => false
theorem keq_eq {k k' : IntKind} (h : keq k k' = true) : k = k' := by cases k <;> cases k' <;> first | rfl | cases h
/-- against nil; c: one of them is written out -/
def nilV (y : Ty) (c : Bool) (u v : Value) (next : Bool → Prop) (fb : Prop) : Prop := match y, u, v with
  | .ptr, .pointer none, .pointer b => next b.isNone
  | .ptr, .pointer (some _), .pointer none => next false
  | .sl _ _, .slice none _ _, .slice b _ _ => next b.isNone
  | .sl _ _, .slice (some _) _ _, .slice none _ _ => next false
  | .map _ _, .map none, .map b => next b.isNone
  | .map _ _, .map (some _), .map none => next false
  | .fn, .nilFunc, .nilFunc => next true
  | .fn, .nilFunc, .func .. => next false
  | .fn, .func .., .nilFunc => next false
  | .ifc, .nilIface, .nilIface => cond c (next true) fb
  | .ifc, .nilIface, .iface _ _ => next false
  | .ifc, .iface _ _, .nilIface => next false
  | .bool, .bool a, .bool b => next (a == b)
  | _, _, _ => fb
def isC : Operand → Bool
  | .const _ => true
  | _ => false
def eqlV (T : Tab) (t : TypeId) (c : Bool) (u v : Value) (next : Bool → Prop) (fb : Prop) : Prop := look T.rows t fun y _ => nilV y c u v next fb
def binV (T : Tab) (op : BinOp) (t : TypeId) (c : Bool) (u v : Value) (next : Value → Prop) (fb : Prop) : Prop := match u, v with
  | .int k x, .int k' y => match op with
    | .shl => ShP y (Wr k (x * 2 ^ (min y.toNat k.bits)) next)
    | .shr => ShP y (next (.int k (x.fdiv (2 ^ (min y.toNat k.bits)))))
    | op => cond (keq k k') (intV op k x y next) False
  | .string a, .string b => strV op a b next
  | u, v => match op with
    | .eql => eqlV T t c u v (fun b => next (.bool b)) fb
    | .neq => eqlV T t c u v (fun b => next (.bool (!b))) fb
    | _ => fb
def unV (op : UnOp) (v : Value) (next : Value → Prop) (fb : Prop) : Prop := match op, v with
  | .not, .bool b => next (.bool (!b))
  | .neg, .int k n => Wr k (0 - n) next
  | .xor, .int k n => next (.int k (notI k n))
  | _, _ => fb
end Go.Sx
