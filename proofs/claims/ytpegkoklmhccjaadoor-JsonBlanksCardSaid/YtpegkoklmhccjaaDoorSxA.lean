/- Symbolic steps, first part: what the slots hold as a list, what the world holds as a list of blocks, and which conditions an operation has. -/
import Derived.Below
import Derived.Orders
import Derived.Tactics
import Derived.Laws.Rows
import Derived.Laws.Tables
import Derived.Deep.MidRow
namespace Go.Sx
open Go Go.RowKit
set_option linter.unusedVariables false

/-- what the slots hold, later ones first -/
abbrev Fr := List (Nat × Value)
def find : Fr → Nat → (Value → Prop) → Prop
  | [], _, _ => False
  | p :: σ, i, k => cond (Nat.beq p.1 i) (k p.2) (find σ i k)
def get : Fr → Nat → Option Value
  | [], _ => none
  | p :: σ, i => cond (Nat.beq p.1 i) (some p.2) (get σ i)
theorem find_get (σ : Fr) (i : Nat) (k : Value → Prop) (h : find σ i k) : ∃ v, get σ i = some v ∧ k v := by
  induction σ with
  | nil => exact h.elim
  | cons p σ ih =>
    simp only [find, get] at *
    cases hb : Nat.beq p.1 i
    · rw [hb] at h; exact ih h
    · rw [hb] at h; exact ⟨p.2, rfl, h⟩
def ev (σ : Fr) : Operand → (Value → Prop) → Prop
  | .tmp t, k => find σ t k
  | .const v, k => k v
  | .global g, k => k (.pointer (some ⟨g, 0, none⟩))
  | .func f, k => k (.func (.func f) #[] #[])
def evs (σ : Fr) : List Operand → (List Value → Prop) → Prop
  | [], k => k []
  | x :: l, k => ev σ x fun v => evs σ l fun vs => k (v :: vs)
/-- what the operands are -/
def Fit (σ : Fr) (ρ : Operand → Value) : Prop := ∀ x k, ev σ x k → k (ρ x)
theorem Fit.evs {σ : Fr} {ρ : Operand → Value} (h : Fit σ ρ) (l : List Operand) (k : List Value → Prop) (hk : evs σ l k) : k (l.map ρ) := by
  induction l generalizing k with
  | nil => exact hk
  | cons x l ih =>
    have h1 := h x _ hk
    exact ih (fun vs => k (ρ x :: vs)) h1

/-- something that a world holds: in blocks of its own and in blocks that are only read -/
structure Res where
  w : Nat → Prop
  r : Nat → Prop
  p : World → Prop
  st : ∀ u v : World, (∀ k, w k ∨ r k → v.heap[k]? = u.heap[k]?) → p u → p v
  bd : ∀ u, p u → ∀ k, w k ∨ r k → k < u.heap.size
/-- a block and what it holds (none: nothing is said); ro: it is only read; q: more than a block -/
structure Ent where
  b : Nat
  o : Option Obj
  ro : Bool := false
  q : Option Res := none
abbrev cl (b : Nat) (c : Array Value) (t : TypeId) : Ent := ⟨b, some (.cells c t (0, 0)), false, none⟩
abbrev cr (b : Nat) (c : Array Value) (t : TypeId) : Ent := ⟨b, some (.cells c t (0, 0)), true, none⟩
abbrev mp (b : Nat) (es : Array MapEntry) (k : Nat) : Ent := ⟨b, some (.map es k), false, none⟩
abbrev rs (r : Res) : Ent := ⟨0, none, false, some r⟩
abbrev dead : Ent := ⟨0, none, false, none⟩
/-- the blocks that are its own -/
def Ent.W (e : Ent) (k : Nat) : Prop := (e.o.isSome = true ∧ e.ro = false ∧ e.b = k) ∨ ∃ r, e.q = some r ∧ r.w k
/-- all of its blocks -/
def Ent.A (e : Ent) (k : Nat) : Prop := (e.o.isSome = true ∧ e.b = k) ∨ ∃ r, e.q = some r ∧ (r.w k ∨ r.r k)
def Ent.Ok (e : Ent) (w : World) : Prop := (∀ o, e.o = some o → w.heap[e.b]? = some o) ∧ ∀ r, e.q = some r → r.p w
def Apart (x y : Ent) : Prop := ∀ k, (x.W k → ¬ y.A k) ∧ (y.W k → ¬ x.A k)
theorem Ent.W.a {e : Ent} {k : Nat} (h : e.W k) : e.A k := by
  rcases h with ⟨h1, _, h3⟩ | ⟨r, h1, h2⟩
  · exact .inl ⟨h1, h3⟩
  · exact .inr ⟨r, h1, .inl h2⟩
theorem Ent.Ok.lt {e : Ent} {w : World} (h : e.Ok w) {k : Nat} (hk : e.A k) : k < w.heap.size := by
  rcases hk with ⟨h1, rfl⟩ | ⟨r, h1, h2⟩
  · obtain ⟨o, ho⟩ := Option.isSome_iff_exists.1 h1
    exact (Array.getElem?_eq_some_iff.1 (h.1 o ho)).1
  · exact r.bd w (h.2 r h1) k h2
theorem Ent.Ok.same {e : Ent} {w w' : World} (h : e.Ok w) (hs : ∀ k, e.A k → w'.heap[k]? = w.heap[k]?) : e.Ok w' :=
  ⟨fun o ho => (hs e.b (.inl ⟨by simp [ho], rfl⟩)).trans (h.1 o ho), fun r hr => r.st w w' (fun k hk => hs k (.inr ⟨r, hr, hk⟩)) (h.2 r hr)⟩
@[simp] theorem blkW (b : Nat) (o : Obj) (r : Bool) (k : Nat) : (⟨b, some o, r, none⟩ : Ent).W k ↔ r = false ∧ b = k := by simp [Ent.W]
@[simp] theorem blkA (b : Nat) (o : Obj) (r : Bool) (k : Nat) : (⟨b, some o, r, none⟩ : Ent).A k ↔ b = k := by simp [Ent.A]
@[simp] theorem blkOk (b : Nat) (o : Obj) (r : Bool) (w : World) : (⟨b, some o, r, none⟩ : Ent).Ok w ↔ w.heap[b]? = some o := by simp [Ent.Ok]
@[simp] theorem rsW (r : Res) (k : Nat) : (rs r).W k ↔ r.w k := by simp [Ent.W]
@[simp] theorem rsA (r : Res) (k : Nat) : (rs r).A k ↔ r.w k ∨ r.r k := by simp [Ent.A]
@[simp] theorem rsOk (r : Res) (w : World) : (rs r).Ok w ↔ r.p w := by simp [Ent.Ok]
@[simp] theorem deadW (k : Nat) : dead.W k ↔ False := by simp [Ent.W]
@[simp] theorem deadA (k : Nat) : dead.A k ↔ False := by simp [Ent.A]
@[simp] theorem deadOk (w : World) : dead.Ok w ↔ True := by simp [Ent.Ok]
/-- blocks, in some words -/
abbrev Bks := List (Nat → Prop)
def InM (M : Bks) (k : Nat) : Prop := ∃ p ∈ M, p k
@[simp] theorem inM_nil (k : Nat) : InM [] k ↔ False := by simp [InM]
@[simp] theorem inM_cons (p : Nat → Prop) (M : Bks) (k : Nat) : InM (p :: M) k ↔ p k ∨ InM M k := by simp [InM]
abbrev bl (b : Nat) : Nat → Prop := fun k => k = b
/-- as the world stands: B: as it stood when the function began; M: old blocks that may have turned -/
structure St (M : Bks) (B w : World) (L : List Ent) : Prop where
  os : w.os = B.os
  tape : w.tape = B.tape
  output : w.output = B.output
  size : B.heap.size ≤ w.heap.size
  old : ∀ k, k < B.heap.size → ¬ InM M k → w.heap[k]? = B.heap[k]?
  ok : ∀ e ∈ L, e.Ok w
  ownW : ∀ e ∈ L, ∀ k, e.W k → B.heap.size ≤ k ∨ InM M k
  apart : L.Pairwise Apart

section st
variable {M : Bks} {B w w' : World} {L : List Ent}
theorem St.has (h : St M B w L) (e : Ent) (he : e ∈ L) (o : Obj) (ho : e.o = some o) : w.heap[e.b]? = some o := (h.ok e he).1 o ho
theorem St.own (h : St M B w L) (e : Ent) (he : e ∈ L) (h1 : e.o.isSome = true) (h2 : e.ro = false) : B.heap.size ≤ e.b ∨ InM M e.b := h.ownW e he e.b (.inl ⟨h1, h2, rfl⟩)
theorem St.start (w : World) : St [] w w [] := ⟨rfl, rfl, rfl, Nat.le_refl _, fun _ _ _ => rfl, by simp, by simp, .nil⟩
/-- where it begins: what is there, and what of it may turn -/
theorem St.from (w : World) (M : Bks) (L : List Ent) (h : ∀ e ∈ L, e.Ok w ∧ ∀ k, e.W k → InM M k) (hp : L.Pairwise Apart) : St M w w L := ⟨rfl, rfl, rfl, Nat.le_refl _, fun _ _ _ => rfl, fun e he => (h e he).1, fun e he k hk => .inr ((h e he).2 k hk), hp⟩
theorem St.below (h : St [] B w L) : Below B.heap.size B w := ⟨h.os, h.tape, h.output, h.size, fun k hk => h.old k hk (by simp)⟩
theorem St.nth (h : St M B w L) {k b : Nat} {o : Obj} {r : Bool} (hk : L[k]? = some ⟨b, some o, r, none⟩) : w.heap[b]? = some o := h.has _ (List.mem_of_getElem? hk) o rfl
theorem St.res (h : St M B w L) {k : Nat} {r : Res} (hk : L[k]? = some (rs r)) : r.p w := (h.ok _ (List.mem_of_getElem? hk)).2 r rfl
theorem St.ltA (h : St M B w L) {e : Ent} (he : e ∈ L) {k : Nat} (hk : e.A k) : k < w.heap.size := (h.ok e he).lt hk
theorem St.lt (h : St M B w L) {e : Ent} (he : e ∈ L) (hs : e.o.isSome = true) : e.b < w.heap.size := h.ltA he (.inl ⟨hs, rfl⟩)
theorem St.call (h : St M B w L) (hb : Below w.heap.size w w') : St M B w' L :=
  ⟨hb.os.trans h.os, hb.tape.trans h.tape, hb.output.trans h.output, Nat.le_trans h.size hb.size, fun k hk hm => (hb.block k (Nat.lt_of_lt_of_le hk h.size)).trans (h.old k hk hm),
   fun e he => (h.ok e he).same fun k hk => hb.block k (h.ltA he hk), h.ownW, h.apart⟩
theorem St.drew (h : St M B w L) : St M B w.drew L := ⟨h.os, h.tape, h.output, h.size, h.old, fun e he => (h.ok e he).same fun k hk => rfl, h.ownW, h.apart⟩
theorem Apart.symm {x y : Ent} (h : Apart x y) : Apart y x := fun k => ⟨(h k).2, (h k).1⟩
/-- what is made behind it is apart from what was there -/
theorem St.push (h : St M B w L) (hb : Below w.heap.size w w') {e : Ent} (ho : e.Ok w') (hw : ∀ k, e.W k → w.heap.size ≤ k) (ha : ∀ k, e.A k → w.heap.size ≤ k ∨ ∃ f ∈ L, f.A k ∧ ¬ f.W k) : St M B w' (L ++ [e]) := by
  have h' := h.call hb
  refine ⟨h'.os, h'.tape, h'.output, h'.size, h'.old, ?_, ?_, ?_⟩
  · intro f hf
    rcases List.mem_append.1 hf with hf | hf
    · exact h'.ok f hf
    · obtain rfl : f = e := by simpa using hf
      exact ho
  · intro f hf k hk
    rcases List.mem_append.1 hf with hf | hf
    · exact h'.ownW f hf k hk
    · obtain rfl : f = e := by simpa using hf
      exact .inl (Nat.le_trans h.size (hw k hk))
  · refine List.pairwise_append.2 ⟨h'.apart, by simp, ?_⟩
    intro x hx y hy
    obtain rfl : y = e := by simpa using hy
    refine fun k => ⟨fun h1 h2 => ?_, fun h1 h2 => ?_⟩
    · rcases ha k h2 with h3 | ⟨f, hf, h3, h4⟩
      · have := h.ltA hx h1.a; omega
      · obtain ⟨i, hi⟩ := List.mem_iff_getElem?.1 hf
        obtain ⟨j, hj⟩ := List.mem_iff_getElem?.1 hx
        by_cases hij : i = j
        · subst hij
          obtain rfl := Option.some.inj (hi.symm.trans hj)
          exact h4 h1
        · obtain ⟨hi1, rfl⟩ := List.getElem?_eq_some_iff.1 hi
          obtain ⟨hj1, rfl⟩ := List.getElem?_eq_some_iff.1 hj
          have hp := List.pairwise_iff_getElem.1 h.apart
          rcases Nat.lt_or_gt_of_ne hij with h5 | h5
          · exact (hp i j hi1 hj1 h5 k).2 h1 h3
          · exact (hp j i hj1 hi1 h5 k).1 h1 h3
    · have := h.ltA hx h2; have := hw k h1; omega
theorem St.add (h : St M B w L) (hb : Below w.heap.size w w') {b : Nat} {o : Obj} (hbn : w.heap.size ≤ b) (ho : w'.heap[b]? = some o) : St M B w' (L ++ [⟨b, some o, false, none⟩]) :=
  h.push hb (by simpa using ho) (fun k hk => by simp at hk; omega) (fun k hk => .inl (by simp at hk; omega))
theorem below_alloc1 (w : World) (o : Obj) : Below w.heap.size w (w.alloc o) := (Below.refl _ _).alloc (Nat.le_refl _) _
theorem St.alloc (h : St M B w L) (o : Obj) : St M B (w.alloc o) (L ++ [⟨w.heap.size, some o, false, none⟩]) := h.add (below_alloc1 w o) (Nat.le_refl _) (heap_alloc_new w o)
theorem pw_ne {L : List Ent} (h : L.Pairwise Apart) {i j : Nat} {e f : Ent} (hi : L[i]? = some e) (hj : L[j]? = some f) (hij : i ≠ j) : Apart e f := by
  obtain ⟨hi1, rfl⟩ := List.getElem?_eq_some_iff.1 hi
  obtain ⟨hj1, rfl⟩ := List.getElem?_eq_some_iff.1 hj
  have hp := List.pairwise_iff_getElem.1 h
  rcases Nat.lt_or_gt_of_ne hij with h1 | h1
  · exact hp i j hi1 hj1 h1
  · exact (hp j i hj1 hi1 h1).symm
theorem pw_set {L : List Ent} (h : L.Pairwise Apart) {k : Nat} {e : Ent} (he : ∀ i f, i ≠ k → L[i]? = some f → Apart e f) : (L.set k e).Pairwise Apart := by
  rw [List.pairwise_iff_getElem]
  intro i j hi hj hij
  simp only [List.length_set] at hi hj
  have hp := List.pairwise_iff_getElem.1 h i j hi hj hij
  simp only [List.getElem_set]
  split <;> split
  · omega
  · rename_i h1 h2; exact he j _ (by omega) (by simp [hj])
  · rename_i h1 h2; exact (he i _ (by omega) (by simp [hi])).symm
  · exact hp
theorem mem_set_cases {L : List Ent} {k : Nat} {e f : Ent} (hf : f ∈ L.set k e) : f = e ∨ ∃ i, i ≠ k ∧ L[i]? = some f := by
  obtain ⟨i, hi⟩ := List.mem_iff_getElem?.1 hf
  rw [List.getElem?_set] at hi
  by_cases hik : k = i
  · rw [if_pos hik] at hi
    split at hi
    · exact .inl (Option.some.inj hi).symm
    · cases hi
  · rw [if_neg hik] at hi; exact .inr ⟨i, fun e => hik e.symm, hi⟩
/-- an entry has turned, and nothing else that was there -/
theorem St.upd2 (h : St M B w L) {k : Nat} {e : Ent} (hk : L[k]? = some e) {e' : Ent} (hs : w.heap.size ≤ w'.heap.size) (ho : e'.Ok w')
    (hoth : ∀ j, j < w.heap.size → ¬ e.W j → (j < B.heap.size ∨ ∃ f ∈ L.set k dead, f.A j) → w'.heap[j]? = w.heap[j]?) (h1 : w'.os = w.os) (h2 : w'.tape = w.tape) (h3 : w'.output = w.output)
    (hW : ∀ j, e'.W j → e.W j ∨ w.heap.size ≤ j) (hA : ∀ j, e'.A j → e.A j ∨ w.heap.size ≤ j) : St M B w' (L.set k e') := by
  have hm := List.mem_of_getElem? hk
  have hown := h.ownW _ hm
  refine ⟨h1.trans h.os, h2.trans h.tape, h3.trans h.output, Nat.le_trans h.size hs, ?_, ?_, ?_, ?_⟩
  · intro j hj hm
    refine (hoth j (Nat.lt_of_lt_of_le hj h.size) (fun hj' => ?_) (.inl hj)).trans (h.old j hj hm)
    rcases hown j hj' with h' | h'
    · omega
    · exact hm h'
  · intro f hf
    rcases mem_set_cases hf with rfl | ⟨i, hik, hi⟩
    · exact ho
    · refine (h.ok f (List.mem_of_getElem? hi)).same fun j hj => hoth j (h.ltA (List.mem_of_getElem? hi) hj) (fun hj' => ?_) (.inr ⟨f, List.mem_of_getElem? (i := i) (by rw [List.getElem?_set_ne (fun e => hik e.symm)]; exact hi), hj⟩)
      exact (pw_ne h.apart hi hk hik j).2 hj' hj
  · intro f hf j hj
    rcases mem_set_cases hf with rfl | ⟨i, hik, hi⟩
    · rcases hW j hj with h' | h'
      · exact hown j h'
      · exact .inl (Nat.le_trans h.size h')
    · exact h.ownW f (List.mem_of_getElem? hi) j hj
  · refine pw_set h.apart fun i f hik hi j => ?_
    have hap := pw_ne h.apart hk hi (fun e => hik e.symm) j
    have hl : f.A j → j < w.heap.size := fun hj => h.ltA (List.mem_of_getElem? hi) hj
    refine ⟨fun h1 h2 => ?_, fun h1 h2 => ?_⟩
    · rcases hW j h1 with h' | h'
      · exact hap.1 h' h2
      · have := hl h2; omega
    · rcases hA j h2 with h' | h'
      · exact hap.2 h1 h'
      · have := hl h1.a; omega
theorem St.upd (h : St M B w L) {k : Nat} {e : Ent} (hk : L[k]? = some e) {e' : Ent} (hs : w.heap.size ≤ w'.heap.size) (ho : e'.Ok w')
    (hoth : ∀ j, j < w.heap.size → ¬ e.W j → w'.heap[j]? = w.heap[j]?) (h1 : w'.os = w.os) (h2 : w'.tape = w.tape) (h3 : w'.output = w.output)
    (hW : ∀ j, e'.W j → e.W j ∨ w.heap.size ≤ j) (hA : ∀ j, e'.A j → e.A j ∨ w.heap.size ≤ j) : St M B w' (L.set k e') := h.upd2 hk hs ho (fun j hj hn _ => hoth j hj hn) h1 h2 h3 hW hA
/-- one block has turned, and nothing else that was there -/
theorem St.set (h : St M B w L) {k b : Nat} {o : Obj} (hk : L[k]? = some ⟨b, some o, false, none⟩) {o' : Obj} (hs : w.heap.size ≤ w'.heap.size) (ho : w'.heap[b]? = some o')
    (hoth : ∀ j, j < w.heap.size → j ≠ b → w'.heap[j]? = w.heap[j]?) (h1 : w'.os = w.os) (h2 : w'.tape = w.tape) (h3 : w'.output = w.output) : St M B w' (L.set k ⟨b, some o', false, none⟩) :=
  h.upd hk hs (by simpa using ho) (fun j hj hn => hoth j hj (fun e => hn (by simp [e]))) h1 h2 h3 (fun j hj => .inl (by simpa using hj)) (fun j hj => .inl (by simpa using hj))
/-- an entry is given up for a block that is new -/
theorem St.swap (h : St M B w L) (k : Nat) (hb : Below w.heap.size w w') {b : Nat} {o : Obj} (hbn : w.heap.size ≤ b) (ho : w'.heap[b]? = some o) : St M B w' (L.set k ⟨b, some o, false, none⟩) := by
  by_cases hk : k < L.length
  · exact h.upd (List.getElem?_eq_getElem hk) hb.size (by simpa using ho) (fun j hj _ => hb.block j hj) hb.os hb.tape hb.output (fun j hj => .inr (by simp at hj; omega)) (fun j hj => .inr (by simp at hj; omega))
  · rw [List.set_eq_of_length_le (by omega)]; exact h.call hb
/-- an entry is given up -/
theorem St.kill (h : St M B w L) (k : Nat) : St M B w (L.set k dead) := by
  by_cases hk : k < L.length
  · exact h.upd (List.getElem?_eq_getElem hk) (Nat.le_refl _) (by simp) (fun j hj _ => rfl) rfl rfl rfl (fun j hj => by simp at hj) (fun j hj => by simp at hj)
  · rw [List.set_eq_of_length_le (by omega)]; exact h
theorem St.setRow (h : St M B w L) {k b : Nat} {c : Array Value} {t : TypeId} (hk : L[k]? = some (cl b c t)) (c' : Array Value) : St M B (w.setRow b c') (L.set k (cl b c' t)) :=
  h.set hk (by simp) (setRow_heap w b c c' t _ (h.nth hk)) (fun j _ hj => setRow_other w b j c' hj) rfl rfl rfl
theorem St.setCell (h : St M B w L) {k b : Nat} {c : Array Value} {t : TypeId} (hk : L[k]? = some (cl b c t)) (i : Nat) (v : Value) : St M B (w.setCell ⟨b, i, none⟩ v) (L.set k (cl b (c.setIfInBounds i v) t)) :=
  h.set hk (by simp [World.setCell]) (heap_setCell_same w b i c t v (h.nth hk)) (fun j _ hj => heap_setCell_other w ⟨b, i, none⟩ j v hj) rfl rfl rfl
/-- fewer blocks are known -/
inductive Sub : List Ent → List Ent → Prop
  | nil {l} : Sub [] l
  | cons {e l l'} : Sub l l' → Sub (e :: l) (e :: l')
  | dead {e l l'} : Sub l l' → Sub (dead :: l) (e :: l')
  | drop {e l l'} : Sub l l' → Sub l (e :: l')
  | pad {l l'} : Sub l l' → Sub (dead :: l) l'
theorem Sub.mem {l l' : List Ent} (h : Sub l l') : ∀ e ∈ l, e = Sx.dead ∨ e ∈ l' := by
  induction h with
  | nil => simp
  | cons h ih =>
    intro e he
    rcases List.mem_cons.1 he with rfl | he
    · exact .inr List.mem_cons_self
    · exact (ih e he).imp id (List.mem_cons_of_mem _)
  | dead h ih =>
    intro e he
    rcases List.mem_cons.1 he with rfl | he
    · exact .inl rfl
    · exact (ih e he).imp id (List.mem_cons_of_mem _)
  | drop h ih => intro e he; exact (ih e he).imp id (List.mem_cons_of_mem _)
  | pad h ih =>
    intro e he
    rcases List.mem_cons.1 he with rfl | he
    · exact .inl rfl
    · exact ih e he
theorem Sub.refl (l : List Ent) : Sub l l := by
  induction l with
  | nil => exact .nil
  | cons e l ih => exact .cons ih
theorem dead_apart (e : Ent) : Apart dead e := fun k => ⟨fun h => by simp at h, fun _ h => by simp at h⟩
theorem Sub.pair {l l' : List Ent} (h : Sub l l') (hp : l'.Pairwise Apart) : l.Pairwise Apart := by
  induction h with
  | nil => exact .nil
  | cons h ih =>
    cases hp with
    | cons h1 h2 =>
      refine .cons (fun y hy => ?_) (ih h2)
      rcases h.mem y hy with rfl | hy
      · exact (dead_apart _).symm
      · exact h1 y hy
  | dead h ih => cases hp with | cons h1 h2 => exact .cons (fun y _ => dead_apart y) (ih h2)
  | drop h ih => cases hp with | cons h1 h2 => exact ih h2
  | pad h ih => exact .cons (fun y _ => dead_apart y) (ih hp)
theorem St.sub {L' : List Ent} (h : St M B w L) (hs : Sub L' L) : St M B w L' :=
  ⟨h.os, h.tape, h.output, h.size, h.old, fun e he => (by rcases hs.mem e he with rfl | he; simp; exact h.ok e he), fun e he k hk => (by rcases hs.mem e he with rfl | he; simp at hk; exact h.ownW e he k hk), hs.pair h.apart⟩
theorem St.cell (h : St M B w L) {k b : Nat} {c : Array Value} {t : TypeId} {fz : Nat × Nat} {ro : Bool} (hk : L[k]? = some ⟨b, some (.cells c t fz), ro, none⟩) (i : Nat) : w.cell? ⟨b, i, none⟩ = c[i]? := cell_of_row w b i c t _ (h.nth hk)
end st

/-- what is known of a type: its kind, its cells -/
inductive Ty where
  | int (k : IntKind) | str | bool | ptr | fn | ifc
  | sl (e n : Nat) | arr (len e n : Nat) (agg : Bool)
  | st (fs : List (Nat × Nat × Bool))
  | map (k e : Nat)
  | up
structure Row where
  t : Nat
  y : Ty
  n : Nat
/-- the tables of a program -/
structure Tab where
  rows : List Row
  zero : List (Nat × Array Value)
  fns : Nat
  ext : List Nat
def Ty.agg : Ty → Bool
  | .arr .. | .st _ => true
  | _ => false
def descAgg : Option TypeDesc → Bool
  | some (.struct _) | some (.array _ _) => true
  | _ => false
def sizeIs (P : Program) (t n : Nat) : Bool := (P.info? t).map (·.size) == some n
def fieldOk (P : Program) (q : (Nat × Nat × Bool) × Field) : Bool := q.1.1 == q.2.offset && sizeIs P q.2.type q.1.2.1 && q.1.2.1 != 0 && (descAgg (P.underlying q.2.type) == q.1.2.2) && (P.underlying q.2.type).isSome
def rowOk (P : Program) (r : Row) : Bool := sizeIs P r.t r.n && match r.y, P.underlying r.t with
  | .int k, some (.int k') => k == k'
  | .str, some .string => true
  | .bool, some .bool => true
  | .ptr, some (.pointer _) => true
  | .fn, some (.func ..) => true
  | .ifc, some (.interface _) => true
  | .sl e n, some (.slice e') => e == e' && sizeIs P e n
  | .arr len e n g, some (.array len' e') => len == len' && e == e' && sizeIs P e n && (descAgg (P.underlying e') == g) && (P.underlying e').isSome
  | .st fs, some (.struct fields) => fs.length == fields.size && (fs.zip fields.toList).all (fieldOk P)
  | .map k e, some (.map k' e') => k == k' && e == e'
  | .up, some .unsafePointer => true
  | _, _ => false
def entOk (P : Program) (g : Nat) : Bool := match P.funcs[g]? with
  | some fn => !(fn.name == "runtime.NumGoroutine") && fn.body.isSome
  | none => false
def zeroOk (P : Program) : List (Nat × Array Value) → Prop
  | [] => True
  | z :: l => (P.info? z.1).bind (fun i => i.zero.map (·.cells)) = some z.2 ∧ zeroOk P l
structure TabOk (P : Program) (T : Tab) : Prop where
  rows : T.rows.all (rowOk P) = true
  fns : (List.range T.fns).all (fun g => T.ext.contains g || entOk P g) = true
  zero : zeroOk P T.zero
def look : List Row → Nat → (Ty → Nat → Prop) → Prop
  | [], _, _ => False
  | r :: l, t, k => cond (Nat.beq r.t t) (k r.y r.n) (look l t k)
theorem look_row (l : List Row) (t : Nat) (k : Ty → Nat → Prop) (h : look l t k) : ∃ r ∈ l, r.t = t ∧ k r.y r.n := by
  induction l with
  | nil => exact h.elim
  | cons r l ih =>
    simp only [look] at h
    cases hb : Nat.beq r.t t
    · rw [hb] at h; obtain ⟨r', h1, h2⟩ := ih h; exact ⟨r', List.mem_cons_of_mem _ h1, h2⟩
    · rw [hb] at h; exact ⟨r, List.mem_cons_self, Nat.eq_of_beq_eq_true hb, h⟩
def zof : List (Nat × Array Value) → Nat → (Array Value → Prop) → Prop
  | [], _, _ => False
  | r :: l, t, k => cond (Nat.beq r.1 t) (k r.2) (zof l t k)
theorem zof_ok {P : Program} (l : List (Nat × Array Value)) (hz : zeroOk P l) (t : Nat) (k : Array Value → Prop) (h : zof l t k) : ∃ c, (P.info? t).bind (fun i => i.zero.map (·.cells)) = some c ∧ k c := by
  induction l with
  | nil => exact h.elim
  | cons r l ih =>
    simp only [zof] at h
    cases hb : Nat.beq r.1 t
    · rw [hb] at h; exact ih hz.2 h
    · rw [hb] at h; exact ⟨r.2, Nat.eq_of_beq_eq_true hb ▸ hz.1, h⟩
def lookup_n {α : Type} : List α → Nat → (α → Prop) → Prop
  | [], _, _ => False
  | x :: _, 0, k => k x
  | _ :: l, n + 1, k => lookup_n l n k
theorem lookup_n_spec {α : Type} (l : List α) (n : Nat) (k : α → Prop) (h : lookup_n l n k) : ∃ x, l[n]? = some x ∧ k x := by
  induction l generalizing n with
  | nil => cases n <;> exact h.elim
  | cons x l ih =>
    cases n with
    | zero => exact ⟨x, rfl, h⟩
    | succ n => exact ih n h

/-- a number, and what it wraps to -/
def modk : IntKind → Int → Int
  | .u8, r => r % 256
  | .u16, r => r % 65536
  | .u32, r => r % 4294967296
  | .u64, r => r % 18446744073709551616
  | k, r => k.wrap r
def mn : IntKind → Int
  | .i8 => -128 | .i16 => -32768 | .i32 => -2147483648 | .i64 => -9223372036854775808 | _ => 0
def mx : IntKind → Int
  | .i8 => 127 | .i16 => 32767 | .i32 => 2147483647 | .i64 => 9223372036854775807 | .u8 => 255 | .u16 => 65535 | .u32 => 4294967295 | .u64 => 18446744073709551615
inductive Wr (k : IntKind) (r : Int) (next : Value → Prop) : Prop
  | same (lo : mn k ≤ r) (hi : r ≤ mx k) (go : next (.int k r))
  | mod (go : next (.int k (modk k r)))
  | as (r' : Int) (e : r = r') (lo : mn k ≤ r') (hi : r' ≤ mx k) (go : next (.int k r'))
  | to (r' : Int) (e : modk k r = r') (go : next (.int k r'))
structure DivP (k : IntKind) (x y : Int) (p : Prop) : Prop where
  x0 : 0 ≤ x
  x1 : x ≤ mx k
  y0 : 0 < y
  go : p
structure ShP (y : Int) (p : Prop) : Prop where
  y0 : 0 ≤ y
  go : p
def bitI (op : BinOp) (k : IntKind) (x y : Int) : Int := match op with
  | .and => k.wrap (BitVec.ofInt k.bits x &&& BitVec.ofInt k.bits y).toNat
  | .or => k.wrap (BitVec.ofInt k.bits x ||| BitVec.ofInt k.bits y).toNat
  | .xor => k.wrap (BitVec.ofInt k.bits x ^^^ BitVec.ofInt k.bits y).toNat
  | _ => k.wrap (BitVec.ofInt k.bits x &&& ~~~BitVec.ofInt k.bits y).toNat
def notI (k : IntKind) (x : Int) : Int := bitI .xor k (if k.signed then -1 else k.max) x
structure CatP (a b : ByteArray) (p : Prop) : Prop where
  h : ((a.size + b.size : Nat) : Int) ≤ 9223372036854775807
  go : p
/-- two numbers -/
def intV (op : BinOp) (k : IntKind) (x y : Int) (next : Value → Prop) : Prop := match op with
  | .add => Wr k (x + y) next
  | .sub => Wr k (x - y) next
  | .mul => Wr k (x * y) next
  | .quo => DivP k x y (next (.int k (x / y)))
  | .rem => DivP k x y (next (.int k (x % y)))
  | .and => next (.int k (bitI .and k x y))
  | .or => next (.int k (bitI .or k x y))
  | .xor => next (.int k (bitI .xor k x y))
  | .andNot => next (.int k (bitI .andNot k x y))
  | .eql => next (.bool (x == y))
  | .neq => next (.bool (x != y))
  | .lss => next (.bool (decide (x < y)))
  | .leq => next (.bool (decide (x ≤ y)))
  | .gtr => next (.bool (decide (x > y)))
  | .geq => next (.bool (decide (x ≥ y)))
  | _ => False
def strV (op : BinOp) (a b : ByteArray) (next : Value → Prop) : Prop := match op with
  | .add => CatP a b (next (.string (a ++ b)))
  | .eql => next (.bool (a.toList == b.toList))
  | .neq => next (.bool (!(a.toList == b.toList)))
  | .lss => next (.bool (Op.bytesLess a.toList b.toList))
  | .leq => next (.bool (Op.bytesLess a.toList b.toList || a.toList == b.toList))
  | .gtr => next (.bool (!(Op.bytesLess a.toList b.toList || a.toList == b.toList)))
  | .geq => next (.bool (!Op.bytesLess a.toList b.toList))
  | _ => False
def keq : IntKind → IntKind → Bool
  | .i8, .i8 | .i16, .i16 | .i32, .i32 | .i64, .i64 | .u8, .u8 | .u16, .u16 | .u32, .u32 | .u64, .u64 => true
  | _, _ => false
theorem keq_eq {k k' : IntKind} (h : keq k k' = true) : k = k' := by cases k <;> cases k' <;> first | rfl | cases h
/-- against nil; c: one of them is written out -/
def nilV (y : Ty) (c : Bool) (u v : Value) (next : Bool → Prop) (fb : Prop) : Prop := match y, u, v with
  | .ptr, .pointer none, .pointer b => next b.isNone
  | .ptr, .pointer (some _), .pointer none => next false
  | .sl _ _, .slice none _ _, .slice b _ _ => next b.isNone
  | .sl _ _, .slice (some _) _ _, .slice none _ _ => next false
  | .map _ _, .map none, .map b => next b.isNone
  | .map _ _, .map (some _), .map none => next false
  | .fn, .nilFunc, .nilFunc => next true
  | .fn, .nilFunc, .func .. => next false
  | .fn, .func .., .nilFunc => next false
  | .ifc, .nilIface, .nilIface => cond c (next true) fb
  | .ifc, .nilIface, .iface _ _ => next false
  | .ifc, .iface _ _, .nilIface => next false
  | .bool, .bool a, .bool b => next (a == b)
  | _, _, _ => fb
def isC : Operand → Bool
  | .const _ => true
  | _ => false
def eqlV (T : Tab) (t : TypeId) (c : Bool) (u v : Value) (next : Bool → Prop) (fb : Prop) : Prop := look T.rows t fun y _ => nilV y c u v next fb
def binV (T : Tab) (op : BinOp) (t : TypeId) (c : Bool) (u v : Value) (next : Value → Prop) (fb : Prop) : Prop := match u, v with
  | .int k x, .int k' y => match op with
    | .shl => ShP y (Wr k (x * 2 ^ (min y.toNat k.bits)) next)
    | .shr => ShP y (next (.int k (x.fdiv (2 ^ (min y.toNat k.bits)))))
    | op => cond (keq k k') (intV op k x y next) False
  | .string a, .string b => strV op a b next
  | u, v => match op with
    | .eql => eqlV T t c u v (fun b => next (.bool b)) fb
    | .neq => eqlV T t c u v (fun b => next (.bool (!b))) fb
    | _ => fb
def unV (op : UnOp) (v : Value) (next : Value → Prop) (fb : Prop) : Prop := match op, v with
  | .not, .bool b => next (.bool (!b))
  | .neg, .int k n => Wr k (0 - n) next
  | .xor, .int k n => next (.int k (notI k n))
  | _, _ => fb
end Go.Sx
