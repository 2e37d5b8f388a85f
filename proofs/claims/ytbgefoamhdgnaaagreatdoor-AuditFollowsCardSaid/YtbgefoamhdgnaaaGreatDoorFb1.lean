/- For all texts, steps and numbers the law AuditFollows returns true, and they read as they did; no condition. -/
import Derived.Below
import Derived.Orders
import Derived.Tactics
import Derived.Laws.Rows
import Derived.Laws.Tables
import Derived.Deep.MidRow
import Derived.RangeFuncLeaves
import Derived.RangeFuncSeq
import Derived.RangeFuncNested
import Derived.TacticsIn
import Derived.OrdersIn
import Derived.Test.YtbgefoamhdgnaaaGreatDoorProg
import Derived.KernelRfl
import Derived.Laws.AppendOwn
import Derived.Deep.AppendSrc
import Derived.Deep.DeepAppendWide
import Derived.Laws.StructEq
import Derived.Lib.UnsafeStr
set_option maxRecDepth 100000
set_option maxHeartbeats 16000000
set_option linter.unusedVariables false
set_option linter.unusedSimpArgs false
namespace Go.Sx
section
open Go Go.RowKit
abbrev Fr := List (Nat × Value)
def find : Fr → Nat → (Value → Prop) → Prop
 | [], _, _ => False
 | p :: σ, i, k => cond (Nat.beq p.1 i) (k p.2) (find σ i k)
def get : Fr → Nat → Option Value
 | [], _ => none
 | p :: σ, i => cond (Nat.beq p.1 i) (some p.2) (get σ i)
theorem ZC (σ : Fr) (i : Nat) (k : Value → Prop) (h : find σ i k) : ∃ v, get σ i = some v ∧ k v := by
 induction σ with
 | nil => exact h.elim
 | cons p σ ih =>
  simp only [find, get] at *
  cases hb : Nat.beq p.1 i
  · rw [hb] at h; exact ih h
  · rw [hb] at h; exact ⟨p.2, rfl, h⟩
def ev (σ : Fr) : Operand → (Value → Prop) → Prop
 | .tmp t, k => find σ t k
 | .const v, k => k v
 | .global g, k => k (.pointer (some ⟨g, 0, none⟩))
 | .func f, k => k (.func (.func f) #[] #[])
def evs (σ : Fr) : List Operand → (List Value → Prop) → Prop
 | [], k => k []
 | x :: l, k => ev σ x fun v => evs σ l fun vs => k (v :: vs)
def Fit (σ : Fr) (ρ : Operand → Value) : Prop := ∀ x k, ev σ x k → k (ρ x)
theorem Fit.evs {σ : Fr} {ρ : Operand → Value} (h : Fit σ ρ) (l : List Operand) (k : List Value → Prop) (hk : evs σ l k) : k (l.map ρ) := by
 induction l generalizing k with
 | nil => exact hk
 | cons x l ih =>
  have h1 := h x _ hk
  exact ih (fun vs => k (ρ x :: vs)) h1
structure Res where
 w : Nat → Prop
 r : Nat → Prop
 p : World → Prop
 st : ∀ u v : World, (∀ k, w k ∨ r k → v.heap[k]? = u.heap[k]?) → p u → p v
 bd : ∀ u, p u → ∀ k, w k ∨ r k → k < u.heap.size
structure Ent where
 b : Nat
 o : Option Obj
 ro : Bool := false
 q : Option Res := none
abbrev cl (b : Nat) (c : Array Value) (t : TypeId) : Ent := ⟨b, some (.cells c t (0, 0)), false, none⟩
abbrev cr (b : Nat) (c : Array Value) (t : TypeId) : Ent := ⟨b, some (.cells c t (0, 0)), true, none⟩
abbrev rs (r : Res) : Ent := ⟨0, none, false, some r⟩
abbrev dead : Ent := ⟨0, none, false, none⟩
def Ent.W (e : Ent) (k : Nat) : Prop := (e.o.isSome = true ∧ e.ro = false ∧ e.b = k) ∨ ∃ r, e.q = some r ∧ r.w k
def Ent.A (e : Ent) (k : Nat) : Prop := (e.o.isSome = true ∧ e.b = k) ∨ ∃ r, e.q = some r ∧ (r.w k ∨ r.r k)
def Ent.Ok (e : Ent) (w : World) : Prop := (∀ o, e.o = some o → w.heap[e.b]? = some o) ∧ ∀ r, e.q = some r → r.p w
def Apart (x y : Ent) : Prop := ∀ k, (x.W k → ¬ y.A k) ∧ (y.W k → ¬ x.A k)
theorem Ent.W.a {e : Ent} {k : Nat} (h : e.W k) : e.A k := by
 rcases h with ⟨h1, _, h3⟩ | ⟨r, h1, h2⟩
 · exact .inl ⟨h1, h3⟩
 · exact .inr ⟨r, h1, .inl h2⟩
theorem Ent.Ok.lt {e : Ent} {w : World} (h : e.Ok w) {k : Nat} (hk : e.A k) : k < w.heap.size := by
 rcases hk with ⟨h1, rfl⟩ | ⟨r, h1, h2⟩
 · obtain ⟨o, ho⟩ := Option.isSome_iff_exists.1 h1
   exact (Array.getElem?_eq_some_iff.1 (h.1 o ho)).1
 · exact r.bd w (h.2 r h1) k h2
theorem Ent.Ok.same {e : Ent} {w w' : World} (h : e.Ok w) (hs : ∀ k, e.A k → w'.heap[k]? = w.heap[k]?) : e.Ok w' :=
 ⟨fun o ho => (hs e.b (.inl ⟨by simp [ho], rfl⟩)).trans (h.1 o ho), fun r hr => r.st w w' (fun k hk => hs k (.inr ⟨r, hr, hk⟩)) (h.2 r hr)⟩
@[simp] theorem blkW (b : Nat) (o : Obj) (r : Bool) (k : Nat) : (⟨b, some o, r, none⟩ : Ent).W k ↔ r = false ∧ b = k := by simp [Ent.W]
@[simp] theorem blkA (b : Nat) (o : Obj) (r : Bool) (k : Nat) : (⟨b, some o, r, none⟩ : Ent).A k ↔ b = k := by simp [Ent.A]
@[simp] theorem blkOk (b : Nat) (o : Obj) (r : Bool) (w : World) : (⟨b, some o, r, none⟩ : Ent).Ok w ↔ w.heap[b]? = some o := by simp [Ent.Ok]
@[simp] theorem rsW (r : Res) (k : Nat) : (rs r).W k ↔ r.w k := by simp [Ent.W]
@[simp] theorem rsA (r : Res) (k : Nat) : (rs r).A k ↔ r.w k ∨ r.r k := by simp [Ent.A]
@[simp] theorem qc0 (r : Res) (w : World) : (rs r).Ok w ↔ r.p w := by simp [Ent.Ok]
@[simp] theorem deadW (k : Nat) : dead.W k ↔ False := by simp [Ent.W]
@[simp] theorem deadA (k : Nat) : dead.A k ↔ False := by simp [Ent.A]
@[simp] theorem deadOk (w : World) : dead.Ok w ↔ True := by simp [Ent.Ok]
abbrev Bks := List (Nat → Prop)
def InM (M : Bks) (k : Nat) : Prop := ∃ p ∈ M, p k
@[simp] theorem qc8 (k : Nat) : InM [] k ↔ False := by simp [InM]
@[simp] theorem qbT (p : Nat → Prop) (M : Bks) (k : Nat) : InM (p :: M) k ↔ p k ∨ InM M k := by simp [InM]
abbrev bl (b : Nat) : Nat → Prop := fun k => k = b
structure St (M : Bks) (B w : World) (L : List Ent) : Prop where
 os : w.os = B.os
 tape : w.tape = B.tape
 output : w.output = B.output
 size : B.heap.size ≤ w.heap.size
 old : ∀ k, k < B.heap.size → ¬ InM M k → w.heap[k]? = B.heap[k]?
 ok : ∀ e ∈ L, e.Ok w
 ownW : ∀ e ∈ L, ∀ k, e.W k → B.heap.size ≤ k ∨ InM M k
 apart : L.Pairwise Apart
section st
variable {M : Bks} {B w w' : World} {L : List Ent}
theorem St.has (h : St M B w L) (e : Ent) (he : e ∈ L) (o : Obj) (ho : e.o = some o) : w.heap[e.b]? = some o := (h.ok e he).1 o ho
theorem St.own (h : St M B w L) (e : Ent) (he : e ∈ L) (h1 : e.o.isSome = true) (h2 : e.ro = false) : B.heap.size ≤ e.b ∨ InM M e.b := h.ownW e he e.b (.inl ⟨h1, h2, rfl⟩)
theorem St.start (w : World) : St [] w w [] := ⟨rfl, rfl, rfl, Nat.le_refl _, fun _ _ _ => rfl, by simp, by simp, .nil⟩
theorem St.from (w : World) (M : Bks) (L : List Ent) (h : ∀ e ∈ L, e.Ok w ∧ ∀ k, e.W k → InM M k) (hp : L.Pairwise Apart) : St M w w L := ⟨rfl, rfl, rfl, Nat.le_refl _, fun _ _ _ => rfl, fun e he => (h e he).1, fun e he k hk => .inr ((h e he).2 k hk), hp⟩
theorem St.below (h : St [] B w L) : Below B.heap.size B w := ⟨h.os, h.tape, h.output, h.size, fun k hk => h.old k hk (by simp)⟩
theorem St.nth (h : St M B w L) {k b : Nat} {o : Obj} {r : Bool} (hk : L[k]? = some ⟨b, some o, r, none⟩) : w.heap[b]? = some o := h.has _ (List.mem_of_getElem? hk) o rfl
theorem St.res (h : St M B w L) {k : Nat} {r : Res} (hk : L[k]? = some (rs r)) : r.p w := (h.ok _ (List.mem_of_getElem? hk)).2 r rfl
theorem St.ltA (h : St M B w L) {e : Ent} (he : e ∈ L) {k : Nat} (hk : e.A k) : k < w.heap.size := (h.ok e he).lt hk
theorem St.lt (h : St M B w L) {e : Ent} (he : e ∈ L) (hs : e.o.isSome = true) : e.b < w.heap.size := h.ltA he (.inl ⟨hs, rfl⟩)
theorem St.call (h : St M B w L) (hb : Below w.heap.size w w') : St M B w' L :=
 ⟨hb.os.trans h.os, hb.tape.trans h.tape, hb.output.trans h.output, Nat.le_trans h.size hb.size, fun k hk hm => (hb.block k (Nat.lt_of_lt_of_le hk h.size)).trans (h.old k hk hm),
  fun e he => (h.ok e he).same fun k hk => hb.block k (h.ltA he hk), h.ownW, h.apart⟩
theorem St.drew (h : St M B w L) : St M B w.drew L := ⟨h.os, h.tape, h.output, h.size, h.old, fun e he => (h.ok e he).same fun k hk => rfl, h.ownW, h.apart⟩
theorem Apart.symm {x y : Ent} (h : Apart x y) : Apart y x := fun k => ⟨(h k).2, (h k).1⟩
theorem St.push (h : St M B w L) (hb : Below w.heap.size w w') {e : Ent} (ho : e.Ok w') (hw : ∀ k, e.W k → w.heap.size ≤ k) (ha : ∀ k, e.A k → w.heap.size ≤ k ∨ ∃ f ∈ L, f.A k ∧ ¬ f.W k) : St M B w' (L ++ [e]) := by
 have h' := h.call hb
 refine ⟨h'.os, h'.tape, h'.output, h'.size, h'.old, ?_, ?_, ?_⟩
 · intro f hf
   rcases List.mem_append.1 hf with hf | hf
   · exact h'.ok f hf
   · obtain rfl : f = e := by simpa using hf
     exact ho
 · intro f hf k hk
   rcases List.mem_append.1 hf with hf | hf
   · exact h'.ownW f hf k hk
   · obtain rfl : f = e := by simpa using hf
     exact .inl (Nat.le_trans h.size (hw k hk))
 · refine List.pairwise_append.2 ⟨h'.apart, by simp, ?_⟩
   intro x hx y hy
   obtain rfl : y = e := by simpa using hy
   refine fun k => ⟨fun h1 h2 => ?_, fun h1 h2 => ?_⟩
   · rcases ha k h2 with h3 | ⟨f, hf, h3, h4⟩
     · have := h.ltA hx h1.a; omega
     · obtain ⟨i, hi⟩ := List.mem_iff_getElem?.1 hf
       obtain ⟨j, hj⟩ := List.mem_iff_getElem?.1 hx
       by_cases hij : i = j
       · subst hij
         obtain rfl := Option.some.inj (hi.symm.trans hj)
         exact h4 h1
       · obtain ⟨hi1, rfl⟩ := List.getElem?_eq_some_iff.1 hi
         obtain ⟨hj1, rfl⟩ := List.getElem?_eq_some_iff.1 hj
         have hp := List.pairwise_iff_getElem.1 h.apart
         rcases Nat.lt_or_gt_of_ne hij with h5 | h5
         · exact (hp i j hi1 hj1 h5 k).2 h1 h3
         · exact (hp j i hj1 hi1 h5 k).1 h1 h3
   · have := h.ltA hx h2; have := hw k h1; omega
theorem St.add (h : St M B w L) (hb : Below w.heap.size w w') {b : Nat} {o : Obj} (hbn : w.heap.size ≤ b) (ho : w'.heap[b]? = some o) : St M B w' (L ++ [⟨b, some o, false, none⟩]) :=
 h.push hb (by simpa using ho) (fun k hk => by simp at hk; omega) (fun k hk => .inl (by simp at hk; omega))
theorem zG (w : World) (o : Obj) : Below w.heap.size w (w.alloc o) := (Below.refl _ _).alloc (Nat.le_refl _) _
theorem St.alloc (h : St M B w L) (o : Obj) : St M B (w.alloc o) (L ++ [⟨w.heap.size, some o, false, none⟩]) := h.add (zG w o) (Nat.le_refl _) (heap_alloc_new w o)
theorem QG {L : List Ent} (h : L.Pairwise Apart) {i j : Nat} {e f : Ent} (hi : L[i]? = some e) (hj : L[j]? = some f) (hij : i ≠ j) : Apart e f := by
 obtain ⟨hi1, rfl⟩ := List.getElem?_eq_some_iff.1 hi
 obtain ⟨hj1, rfl⟩ := List.getElem?_eq_some_iff.1 hj
 have hp := List.pairwise_iff_getElem.1 h
 rcases Nat.lt_or_gt_of_ne hij with h1 | h1
 · exact hp i j hi1 hj1 h1
 · exact (hp j i hj1 hi1 h1).symm
theorem pw_set {L : List Ent} (h : L.Pairwise Apart) {k : Nat} {e : Ent} (he : ∀ i f, i ≠ k → L[i]? = some f → Apart e f) : (L.set k e).Pairwise Apart := by
 rw [List.pairwise_iff_getElem]
 intro i j hi hj hij
 simp only [List.length_set] at hi hj
 have hp := List.pairwise_iff_getElem.1 h i j hi hj hij
 simp only [List.getElem_set]
 split <;> split
 · omega
 · rename_i h1 h2; exact he j _ (by omega) (by simp [hj])
 · rename_i h1 h2; exact (he i _ (by omega) (by simp [hi])).symm
 · exact hp
theorem QP {L : List Ent} {k : Nat} {e f : Ent} (hf : f ∈ L.set k e) : f = e ∨ ∃ i, i ≠ k ∧ L[i]? = some f := by
 obtain ⟨i, hi⟩ := List.mem_iff_getElem?.1 hf
 rw [List.getElem?_set] at hi
 by_cases hik : k = i
 · rw [if_pos hik] at hi
   split at hi
   · exact .inl (Option.some.inj hi).symm
   · cases hi
 · rw [if_neg hik] at hi; exact .inr ⟨i, fun e => hik e.symm, hi⟩
theorem St.upd2 (h : St M B w L) {k : Nat} {e : Ent} (hk : L[k]? = some e) {e' : Ent} (hs : w.heap.size ≤ w'.heap.size) (ho : e'.Ok w')
 (hoth : ∀ j, j < w.heap.size → ¬ e.W j → (j < B.heap.size ∨ ∃ f ∈ L.set k dead, f.A j) → w'.heap[j]? = w.heap[j]?) (h1 : w'.os = w.os) (h2 : w'.tape = w.tape) (h3 : w'.output = w.output)
 (hW : ∀ j, e'.W j → e.W j ∨ w.heap.size ≤ j) (hA : ∀ j, e'.A j → e.A j ∨ w.heap.size ≤ j) : St M B w' (L.set k e') := by
 have hm := List.mem_of_getElem? hk
 have hown := h.ownW _ hm
 refine ⟨h1.trans h.os, h2.trans h.tape, h3.trans h.output, Nat.le_trans h.size hs, ?_, ?_, ?_, ?_⟩
 · intro j hj hm
   refine (hoth j (Nat.lt_of_lt_of_le hj h.size) (fun hj' => ?_) (.inl hj)).trans (h.old j hj hm)
   rcases hown j hj' with h' | h'
   · omega
   · exact hm h'
 · intro f hf
   rcases QP hf with rfl | ⟨i, hik, hi⟩
   · exact ho
   · refine (h.ok f (List.mem_of_getElem? hi)).same fun j hj => hoth j (h.ltA (List.mem_of_getElem? hi) hj) (fun hj' => ?_) (.inr ⟨f, List.mem_of_getElem? (i := i) (by rw [List.getElem?_set_ne (fun e => hik e.symm)]; exact hi), hj⟩)
     exact (QG h.apart hi hk hik j).2 hj' hj
 · intro f hf j hj
   rcases QP hf with rfl | ⟨i, hik, hi⟩
   · rcases hW j hj with h' | h'
     · exact hown j h'
     · exact .inl (Nat.le_trans h.size h')
   · exact h.ownW f (List.mem_of_getElem? hi) j hj
 · refine pw_set h.apart fun i f hik hi j => ?_
   have hap := QG h.apart hk hi (fun e => hik e.symm) j
   have hl : f.A j → j < w.heap.size := fun hj => h.ltA (List.mem_of_getElem? hi) hj
   refine ⟨fun h1 h2 => ?_, fun h1 h2 => ?_⟩
   · rcases hW j h1 with h' | h'
     · exact hap.1 h' h2
     · have := hl h2; omega
   · rcases hA j h2 with h' | h'
     · exact hap.2 h1 h'
     · have := hl h1.a; omega
theorem St.upd (h : St M B w L) {k : Nat} {e : Ent} (hk : L[k]? = some e) {e' : Ent} (hs : w.heap.size ≤ w'.heap.size) (ho : e'.Ok w')
 (hoth : ∀ j, j < w.heap.size → ¬ e.W j → w'.heap[j]? = w.heap[j]?) (h1 : w'.os = w.os) (h2 : w'.tape = w.tape) (h3 : w'.output = w.output)
 (hW : ∀ j, e'.W j → e.W j ∨ w.heap.size ≤ j) (hA : ∀ j, e'.A j → e.A j ∨ w.heap.size ≤ j) : St M B w' (L.set k e') := h.upd2 hk hs ho (fun j hj hn _ => hoth j hj hn) h1 h2 h3 hW hA
theorem St.set (h : St M B w L) {k b : Nat} {o : Obj} (hk : L[k]? = some ⟨b, some o, false, none⟩) {o' : Obj} (hs : w.heap.size ≤ w'.heap.size) (ho : w'.heap[b]? = some o')
 (hoth : ∀ j, j < w.heap.size → j ≠ b → w'.heap[j]? = w.heap[j]?) (h1 : w'.os = w.os) (h2 : w'.tape = w.tape) (h3 : w'.output = w.output) : St M B w' (L.set k ⟨b, some o', false, none⟩) :=
 h.upd hk hs (by simpa using ho) (fun j hj hn => hoth j hj (fun e => hn (by simp [e]))) h1 h2 h3 (fun j hj => .inl (by simpa using hj)) (fun j hj => .inl (by simpa using hj))
theorem St.swap (h : St M B w L) (k : Nat) (hb : Below w.heap.size w w') {b : Nat} {o : Obj} (hbn : w.heap.size ≤ b) (ho : w'.heap[b]? = some o) : St M B w' (L.set k ⟨b, some o, false, none⟩) := by
 by_cases hk : k < L.length
 · exact h.upd (List.getElem?_eq_getElem hk) hb.size (by simpa using ho) (fun j hj _ => hb.block j hj) hb.os hb.tape hb.output (fun j hj => .inr (by simp at hj; omega)) (fun j hj => .inr (by simp at hj; omega))
 · rw [List.set_eq_of_length_le (by omega)]; exact h.call hb
theorem St.kill (h : St M B w L) (k : Nat) : St M B w (L.set k dead) := by
 by_cases hk : k < L.length
 · exact h.upd (List.getElem?_eq_getElem hk) (Nat.le_refl _) (by simp) (fun j hj _ => rfl) rfl rfl rfl (fun j hj => by simp at hj) (fun j hj => by simp at hj)
 · rw [List.set_eq_of_length_le (by omega)]; exact h
theorem St.setRow (h : St M B w L) {k b : Nat} {c : Array Value} {t : TypeId} (hk : L[k]? = some (cl b c t)) (c' : Array Value) : St M B (w.setRow b c') (L.set k (cl b c' t)) :=
 h.set hk (by simp) (setRow_heap w b c c' t _ (h.nth hk)) (fun j _ hj => setRow_other w b j c' hj) rfl rfl rfl
theorem St.setCell (h : St M B w L) {k b : Nat} {c : Array Value} {t : TypeId} (hk : L[k]? = some (cl b c t)) (i : Nat) (v : Value) : St M B (w.setCell ⟨b, i, none⟩ v) (L.set k (cl b (c.setIfInBounds i v) t)) :=
 h.set hk (by simp [World.setCell]) (heap_setCell_same w b i c t v (h.nth hk)) (fun j _ hj => heap_setCell_other w ⟨b, i, none⟩ j v hj) rfl rfl rfl
inductive Sub : List Ent → List Ent → Prop
 | nil {l} : Sub [] l
 | cons {e l l'} : Sub l l' → Sub (e :: l) (e :: l')
 | dead {e l l'} : Sub l l' → Sub (dead :: l) (e :: l')
 | drop {e l l'} : Sub l l' → Sub l (e :: l')
 | pad {l l'} : Sub l l' → Sub (dead :: l) l'
theorem Sub.mem {l l' : List Ent} (h : Sub l l') : ∀ e ∈ l, e = Sx.dead ∨ e ∈ l' := by
 induction h with
 | nil => simp
 | cons h ih =>
  intro e he
  rcases List.mem_cons.1 he with rfl | he
  · exact .inr List.mem_cons_self
  · exact (ih e he).imp id (List.mem_cons_of_mem _)
 | dead h ih =>
  intro e he
  rcases List.mem_cons.1 he with rfl | he
  · exact .inl rfl
  · exact (ih e he).imp id (List.mem_cons_of_mem _)
 | drop h ih => intro e he; exact (ih e he).imp id (List.mem_cons_of_mem _)
 | pad h ih =>
  intro e he
  rcases List.mem_cons.1 he with rfl | he
  · exact .inl rfl
  · exact ih e he
theorem Sub.refl (l : List Ent) : Sub l l := by
 induction l with
 | nil => exact .nil
 | cons e l ih => exact .cons ih
theorem ZD (e : Ent) : Apart dead e := fun k => ⟨fun h => by simp at h, fun _ h => by simp at h⟩
theorem Sub.pair {l l' : List Ent} (h : Sub l l') (hp : l'.Pairwise Apart) : l.Pairwise Apart := by
 induction h with
 | nil => exact .nil
 | cons h ih =>
  cases hp with
  | cons h1 h2 =>
   refine .cons (fun y hy => ?_) (ih h2)
   rcases h.mem y hy with rfl | hy
   · exact (ZD _).symm
   · exact h1 y hy
 | dead h ih => cases hp with | cons h1 h2 => exact .cons (fun y _ => ZD y) (ih h2)
 | drop h ih => cases hp with | cons h1 h2 => exact ih h2
 | pad h ih => exact .cons (fun y _ => ZD y) (ih hp)
theorem St.sub {L' : List Ent} (h : St M B w L) (hs : Sub L' L) : St M B w L' :=
 ⟨h.os, h.tape, h.output, h.size, h.old, fun e he => (by rcases hs.mem e he with rfl | he; simp; exact h.ok e he), fun e he k hk => (by rcases hs.mem e he with rfl | he; simp at hk; exact h.ownW e he k hk), hs.pair h.apart⟩
theorem St.cell (h : St M B w L) {k b : Nat} {c : Array Value} {t : TypeId} {fz : Nat × Nat} {ro : Bool} (hk : L[k]? = some ⟨b, some (.cells c t fz), ro, none⟩) (i : Nat) : w.cell? ⟨b, i, none⟩ = c[i]? := cell_of_row w b i c t _ (h.nth hk)
end st
inductive Ty where
 | int (k : IntKind) | str | bool | ptr | fn | ifc
 | sl (e n : Nat) | arr (len e n : Nat) (agg : Bool)
 | st (fs : List (Nat × Nat × Bool))
 | map (k e : Nat)
 | up
structure Row where
 t : Nat
 y : Ty
 n : Nat
structure Tab where
 rows : List Row
 zero : List (Nat × Array Value)
 fns : Nat
 ext : List Nat
def Ty.agg : Ty → Bool
 | .arr .. | .st _ => true
 | _ => false
def zT : Option TypeDesc → Bool
 | some (.struct _) | some (.array _ _) => true
 | _ => false
def zn (P : Program) (t n : Nat) : Bool := (P.info? t).map (·.size) == some n
def fieldOk (P : Program) (q : (Nat × Nat × Bool) × Field) : Bool := q.1.1 == q.2.offset && zn P q.2.type q.1.2.1 && q.1.2.1 != 0 && (zT (P.underlying q.2.type) == q.1.2.2) && (P.underlying q.2.type).isSome
def qeG (P : Program) (r : Row) : Bool := zn P r.t r.n && match r.y, P.underlying r.t with
 | .int k, some (.int k') => k == k'
 | .str, some .string => true
 | .bool, some .bool => true
 | .ptr, some (.pointer _) => true
 | .fn, some (.func ..) => true
 | .ifc, some (.interface _) => true
 | .sl e n, some (.slice e') => e == e' && zn P e n
 | .arr len e n g, some (.array len' e') => len == len' && e == e' && zn P e n && (zT (P.underlying e') == g) && (P.underlying e').isSome
 | .st fs, some (.struct fields) => fs.length == fields.size && (fs.zip fields.toList).all (fieldOk P)
 | .map k e, some (.map k' e') => k == k' && e == e'
 | .up, some .unsafePointer => true
 | _, _ => false
def entOk (P : Program) (g : Nat) : Bool := match P.funcs[g]? with
 | some fn => !(fn.name == "runtime.NumGoroutine") && fn.body.isSome
 | none => false
def zeroOk (P : Program) : List (Nat × Array Value) → Prop
 | [] => True
 | z :: l => (P.info? z.1).bind (fun i => i.zero.map (·.cells)) = some z.2 ∧ zeroOk P l
structure TabOk (P : Program) (T : Tab) : Prop where
 rows : T.rows.all (qeG P) = true
 fns : (List.range T.fns).all (fun g => T.ext.contains g || entOk P g) = true
 zero : zeroOk P T.zero
def look : List Row → Nat → (Ty → Nat → Prop) → Prop
 | [], _, _ => False
 | r :: l, t, k => cond (Nat.beq r.t t) (k r.y r.n) (look l t k)
theorem look_row (l : List Row) (t : Nat) (k : Ty → Nat → Prop) (h : look l t k) : ∃ r ∈ l, r.t = t ∧ k r.y r.n := by
 induction l with
 | nil => exact h.elim
 | cons r l ih =>
  simp only [look] at h
  cases hb : Nat.beq r.t t
  · rw [hb] at h; obtain ⟨r', h1, h2⟩ := ih h; exact ⟨r', List.mem_cons_of_mem _ h1, h2⟩
  · rw [hb] at h; exact ⟨r, List.mem_cons_self, Nat.eq_of_beq_eq_true hb, h⟩
def zof : List (Nat × Array Value) → Nat → (Array Value → Prop) → Prop
 | [], _, _ => False
 | r :: l, t, k => cond (Nat.beq r.1 t) (k r.2) (zof l t k)
theorem zof_ok {P : Program} (l : List (Nat × Array Value)) (hz : zeroOk P l) (t : Nat) (k : Array Value → Prop) (h : zof l t k) : ∃ c, (P.info? t).bind (fun i => i.zero.map (·.cells)) = some c ∧ k c := by
 induction l with
 | nil => exact h.elim
 | cons r l ih =>
  simp only [zof] at h
  cases hb : Nat.beq r.1 t
  · rw [hb] at h; exact ih hz.2 h
  · rw [hb] at h; exact ⟨r.2, Nat.eq_of_beq_eq_true hb ▸ hz.1, h⟩
def Z9 {α : Type} : List α → Nat → (α → Prop) → Prop
 | [], _, _ => False
 | x :: _, 0, k => k x
 | _ :: l, n + 1, k => Z9 l n k
theorem ZR {α : Type} (l : List α) (n : Nat) (k : α → Prop) (h : Z9 l n k) : ∃ x, l[n]? = some x ∧ k x := by
 induction l generalizing n with
 | nil => cases n <;> exact h.elim
 | cons x l ih =>
  cases n with
  | zero => exact ⟨x, rfl, h⟩
  | succ n => exact ih n h
def modk : IntKind → Int → Int
 | .u8, r => r % 256
 | .u16, r => r % 65536
 | .u32, r => r % 4294967296
 | .u64, r => r % 18446744073709551616
 | k, r => k.wrap r
def mn : IntKind → Int
 | .i8 => -128 | .i16 => -32768 | .i32 => -2147483648 | .i64 => -9223372036854775808 | _ => 0
def mx : IntKind → Int
 | .i8 => 127 | .i16 => 32767 | .i32 => 2147483647 | .i64 => 9223372036854775807 | .u8 => 255 | .u16 => 65535 | .u32 => 4294967295 | .u64 => 18446744073709551615
inductive Wr (k : IntKind) (r : Int) (next : Value → Prop) : Prop
 | same (lo : mn k ≤ r) (hi : r ≤ mx k) (go : next (.int k r))
 | mod (go : next (.int k (modk k r)))
 | «as» (r' : Int) (e : r = r') (lo : mn k ≤ r') (hi : r' ≤ mx k) (go : next (.int k r'))
 | to (r' : Int) (e : modk k r = r') (go : next (.int k r'))
structure DivP (k : IntKind) (x y : Int) (p : Prop) : Prop where
 x0 : 0 ≤ x
 x1 : x ≤ mx k
 y0 : 0 < y
 go : p
structure ShP (y : Int) (p : Prop) : Prop where
 y0 : 0 ≤ y
 go : p
def Qz (op : BinOp) (k : IntKind) (x y : Int) : Int := match op with
 | .and => k.wrap (BitVec.ofInt k.bits x &&& BitVec.ofInt k.bits y).toNat
 | .or => k.wrap (BitVec.ofInt k.bits x ||| BitVec.ofInt k.bits y).toNat
 | .xor => k.wrap (BitVec.ofInt k.bits x ^^^ BitVec.ofInt k.bits y).toNat
 | _ => k.wrap (BitVec.ofInt k.bits x &&& ~~~BitVec.ofInt k.bits y).toNat
def notI (k : IntKind) (x : Int) : Int := Qz .xor k (if k.signed then -1 else k.max) x
structure CatP (a b : ByteArray) (p : Prop) : Prop where
 h : ((a.size + b.size : Nat) : Int) ≤ 9223372036854775807
 go : p
def intV (op : BinOp) (k : IntKind) (x y : Int) (next : Value → Prop) : Prop := match op with
 | .add => Wr k (x + y) next
 | .sub => Wr k (x - y) next
 | .mul => Wr k (x * y) next
 | .quo => DivP k x y (next (.int k (x / y)))
 | .rem => DivP k x y (next (.int k (x % y)))
 | .and => next (.int k (Qz .and k x y))
 | .or => next (.int k (Qz .or k x y))
 | .xor => next (.int k (Qz .xor k x y))
 | .andNot => next (.int k (Qz .andNot k x y))
 | .eql => next (.bool (x == y))
 | .neq => next (.bool (x != y))
 | .lss => next (.bool (decide (x < y)))
 | .leq => next (.bool (decide (x ≤ y)))
 | .gtr => next (.bool (decide (x > y)))
 | .geq => next (.bool (decide (x ≥ y)))
 | _ => False
def strV (op : BinOp) (a b : ByteArray) (next : Value → Prop) : Prop := match op with
 | .add => CatP a b (next (.string (a ++ b)))
 | .eql => next (.bool (a.toList == b.toList))
 | .neq => next (.bool (!(a.toList == b.toList)))
 | .lss => next (.bool (Op.bytesLess a.toList b.toList))
 | .leq => next (.bool (Op.bytesLess a.toList b.toList || a.toList == b.toList))
 | .gtr => next (.bool (!(Op.bytesLess a.toList b.toList || a.toList == b.toList)))
 | .geq => next (.bool (!Op.bytesLess a.toList b.toList))
 | _ => False
def keq : IntKind → IntKind → Bool
 | .i8, .i8 | .i16, .i16 | .i32, .i32 | .i64, .i64 | .u8, .u8 | .u16, .u16 | .u32, .u32 | .u64, .u64 => true
 | _, _ => false
theorem keq_eq {k k' : IntKind} (h : keq k k' = true) : k = k' := by cases k <;> cases k' <;> first | rfl | cases h
def nilV (y : Ty) (c : Bool) (u v : Value) (next : Bool → Prop) (fb : Prop) : Prop := match y, u, v with
 | .ptr, .pointer none, .pointer b => next b.isNone
 | .ptr, .pointer (some _), .pointer none => next false
 | .sl _ _, .slice none _ _, .slice b _ _ => next b.isNone
 | .sl _ _, .slice (some _) _ _, .slice none _ _ => next false
 | .map _ _, .map none, .map b => next b.isNone
 | .map _ _, .map (some _), .map none => next false
 | .fn, .nilFunc, .nilFunc => next true
 | .fn, .nilFunc, .func .. => next false
 | .fn, .func .., .nilFunc => next false
 | .ifc, .nilIface, .nilIface => cond c (next true) fb
 | .ifc, .nilIface, .iface _ _ => next false
 | .ifc, .iface _ _, .nilIface => next false
 | .bool, .bool a, .bool b => next (a == b)
 | _, _, _ => fb
def isC : Operand → Bool
 | .const _ => true
 | _ => false
def eqlV (T : Tab) (t : TypeId) (c : Bool) (u v : Value) (next : Bool → Prop) (fb : Prop) : Prop := look T.rows t fun y _ => nilV y c u v next fb
def binV (T : Tab) (op : BinOp) (t : TypeId) (c : Bool) (u v : Value) (next : Value → Prop) (fb : Prop) : Prop := match u, v with
 | .int k x, .int k' y => match op with
  | .shl => ShP y (Wr k (x * 2 ^ (min y.toNat k.bits)) next)
  | .shr => ShP y (next (.int k (x.fdiv (2 ^ (min y.toNat k.bits)))))
  | op => cond (keq k k') (intV op k x y next) False
 | .string a, .string b => strV op a b next
 | u, v => match op with
  | .eql => eqlV T t c u v (fun b => next (.bool b)) fb
  | .neq => eqlV T t c u v (fun b => next (.bool (!b))) fb
  | _ => fb
def unV (op : UnOp) (v : Value) (next : Value → Prop) (fb : Prop) : Prop := match op, v with
 | .not, .bool b => next (.bool (!b))
 | .neg, .int k n => Wr k (0 - n) next
 | .xor, .int k n => next (.int k (notI k n))
 | _, _ => fb
end
section
open Go Go.RowKit
theorem qa4 (k : IntKind) (r : Int) : modk k r = k.wrap r := by
 cases k <;> first | rfl | (simp [modk, IntKind.wrap, IntKind.bits, IntKind.signed])
theorem qai (k : IntKind) (r : Int) (lo : mn k ≤ r) (hi : r ≤ mx k) : k.wrap r = r := by
 cases k <;> simp only [mn, mx] at lo hi <;> simp [IntKind.wrap, IntKind.bits, IntKind.signed] <;> omega
theorem Wr.ok {k : IntKind} {r : Int} {next : Value → Prop} (h : Wr k r next) : next (.int k (k.wrap r)) := by
 cases h with
 | same lo hi go => rw [qai k r lo hi]; exact go
 | mod go => rw [← qa4]; exact go
 | «as» r' e lo hi go => subst e; rw [qai k _ lo hi]; exact go
 | to r' e go => rw [← qa4, e]; exact go
theorem intV_ok {P : Program} {op : BinOp} {k : IntKind} {x y : Int} {next : Value → Prop} (h : intV op k x y next) : ∃ r, next r ∧ ∀ t w, op ≠ .shl → op ≠ .shr → (binOp op t (.int k x) (.int k y)).run P w = .ok r w := by
 cases op
 case add => exact ⟨_, Wr.ok h, fun t w _ _ => by simp [binOp, Op.intArith]⟩
 case sub => exact ⟨_, Wr.ok h, fun t w _ _ => by simp [binOp, Op.intArith]⟩
 case mul => exact ⟨_, Wr.ok h, fun t w _ _ => by simp [binOp, Op.intArith]⟩
 case quo =>
  refine ⟨_, h.go, fun t w _ _ => ?_⟩
  have h0 := h.x0; have h1 := h.x1; have h2 := h.y0
  have hy : y ≠ 0 := by omega
  have hle : x / y ≤ x := Int.ediv_le_self _ h0
  have h3 : 0 ≤ x / y := Int.ediv_nonneg h0 (by omega)
  have e : k.wrap (x.tdiv y) = x / y := by
   rw [Int.tdiv_eq_ediv_of_nonneg h0]
   refine qai k _ ?_ (by omega)
   cases k <;> simp only [mn] <;> omega
  simp [binOp, Op.intDiv, hy, e]
 case rem =>
  refine ⟨_, h.go, fun t w _ _ => ?_⟩
  have h0 := h.x0; have h2 := h.y0
  have hy : y ≠ 0 := by omega
  simp [binOp, Op.intDiv, hy, Int.tmod_eq_emod_of_nonneg h0]
 case and => exact ⟨_, h, fun t w _ _ => by simp [binOp, Op.intBits, Qz]⟩
 case or => exact ⟨_, h, fun t w _ _ => by simp [binOp, Op.intBits, Qz]⟩
 case xor => exact ⟨_, h, fun t w _ _ => by simp [binOp, Op.intBits, Qz]⟩
 case andNot => exact ⟨_, h, fun t w _ _ => by simp [binOp, Op.intBits, Qz]⟩
 case eql => exact ⟨_, h, fun t w _ _ => by simp [binOp, Op.intCmp]⟩
 case neq => exact ⟨_, h, fun t w _ _ => by simp [binOp, Op.intCmp]⟩
 case lss => exact ⟨_, h, fun t w _ _ => by simp [binOp, Op.intCmp]⟩
 case leq => exact ⟨_, h, fun t w _ _ => by simp [binOp, Op.intCmp]⟩
 case gtr => exact ⟨_, h, fun t w _ _ => by simp [binOp, Op.intCmp]⟩
 case geq => exact ⟨_, h, fun t w _ _ => by simp [binOp, Op.intCmp]⟩
 all_goals exact h.elim
theorem strV_ok {P : Program} {op : BinOp} {a b : ByteArray} {next : Value → Prop} (h : strV op a b next) : ∃ r, next r ∧ ∀ t w, (binOp op t (.string a) (.string b)).run P w = .ok r w := by
 cases op
 case add =>
  have h1 := h.h
  exact ⟨_, h.go, fun t w => by
   have : ¬ (((a.size + b.size : Nat) : Int) > IntKind.i64.max) := by simp only [IntKind.max]; simp [IntKind.bits, IntKind.signed]; omega
   simp only [binOp, Op.stringOp, if_neg this, Sem.run_pure]⟩
 case eql => exact ⟨_, h, fun t w => by simp [binOp, Op.stringOp]⟩
 case neq => exact ⟨_, h, fun t w => by simp [binOp, Op.stringOp]⟩
 case lss => exact ⟨_, h, fun t w => by simp [binOp, Op.stringOp]⟩
 case leq => exact ⟨_, h, fun t w => by simp [binOp, Op.stringOp]⟩
 case gtr => exact ⟨_, h, fun t w => by simp [binOp, Op.stringOp]⟩
 case geq => exact ⟨_, h, fun t w => by simp [binOp, Op.stringOp]⟩
 all_goals exact h.elim
theorem TabOk.row {P : Program} {T : Tab} (hT : TabOk P T) {t : Nat} {k : Ty → Nat → Prop} (h : look T.rows t k) : ∃ y n, k y n ∧ qeG P ⟨t, y, n⟩ = true := by
 obtain ⟨r, hr, rfl, hk⟩ := look_row _ _ _ h
 exact ⟨r.y, r.n, hk, List.all_eq_true.1 hT.rows r hr⟩
theorem qdy {P : Program} {t : Nat} {y : Ty} {n : Nat} (h : qeG P ⟨t, y, n⟩ = true) : (P.info? t).map (·.size) = some n := by
 unfold qeG zn at h
 simp only [Bool.and_eq_true, beq_iff_eq] at h
 exact h.1
theorem zN {P : Program} {t n : Nat} (h : zn P t n = true) : (P.info? t).map (·.size) = some n := by simpa [zn] using h
def Says (P : Program) (t : Nat) : Ty → Prop
 | .int k => P.underlying t = some (.int k)
 | .str => P.underlying t = some .string
 | .bool => P.underlying t = some .bool
 | .ptr => ∃ e, P.underlying t = some (.pointer e)
 | .fn => ∃ a b c, P.underlying t = some (.func a b c)
 | .ifc => ∃ m, P.underlying t = some (.interface m)
 | .sl e n => P.underlying t = some (.slice e) ∧ (P.info? e).map (·.size) = some n
 | .arr len e n g => P.underlying t = some (.array len e) ∧ (P.info? e).map (·.size) = some n ∧ zT (P.underlying e) = g ∧ (P.underlying e).isSome = true
 | .st fs => ∃ fields, P.underlying t = some (.struct fields) ∧ ∀ (i : Nat) (p : Nat × Nat × Bool), fs[i]? = some p → ∃ f : Field, fields[i]? = some f ∧ f.offset = p.1 ∧ (P.info? f.type).map (·.size) = some p.2.1 ∧ p.2.1 ≠ 0 ∧ zT (P.underlying f.type) = p.2.2 ∧ (P.underlying f.type).isSome = true
 | .map k e => P.underlying t = some (.map k e)
 | .up => P.underlying t = some .unsafePointer
theorem qG {P : Program} {t : Nat} {y : Ty} {n : Nat} (h : qeG P ⟨t, y, n⟩ = true) : Says P t y := by
 unfold qeG at h
 simp only [Bool.and_eq_true] at h
 have h2 := h.2
 clear h
 generalize hu : P.underlying t = d at h2
 cases y <;> rcases d with _ | d <;> (try cases d) <;> try exact (Bool.false_ne_true h2).elim
 all_goals simp only [Bool.and_eq_true, beq_iff_eq] at h2
 case int.some.int => subst h2; exact hu
 case ptr.some.pointer => exact ⟨_, hu⟩
 case fn.some.func => exact ⟨_, _, _, hu⟩
 case ifc.some.interface => exact ⟨_, hu⟩
 case str.some.string => exact hu
 case bool.some.bool => exact hu
 case up.some.unsafePointer => exact hu
 case sl.some.slice => obtain ⟨rfl, h2⟩ := h2; exact ⟨hu, zN h2⟩
 case arr.some.array => obtain ⟨⟨⟨⟨rfl, rfl⟩, h2⟩, h3⟩, h4⟩ := h2; exact ⟨hu, zN h2, h3, h4⟩
 case map.some.map => obtain ⟨rfl, rfl⟩ := h2; exact hu
 case st.some.struct fs fields =>
  refine ⟨fields, hu, fun i p hp => ?_⟩
  obtain ⟨hlen, hall⟩ := h2
  have hi : i < fs.length := (List.getElem?_eq_some_iff.1 hp).1
  have hi2 : i < fields.size := by omega
  have hz : (fs.zip fields.toList)[i]? = some (p, fields[i]) := by
   rw [List.getElem?_zip_eq_some]; exact ⟨hp, by simp [hi2]⟩
  have := List.all_eq_true.1 hall _ (List.mem_of_getElem? hz)
  unfold fieldOk at this
  simp only [Bool.and_eq_true, beq_iff_eq, bne_iff_ne] at this
  obtain ⟨⟨⟨⟨a, b⟩, c⟩, d⟩, e⟩ := this
  exact ⟨fields[i], by simp [hi2], a.symm, zN b, c, d, e⟩
theorem nilV_ok {P : Program} {t : Nat} {y : Ty} (hs : Says P t y) {c : Bool} {u v : Value} {next : Bool → Prop} {fb : Prop} (h : nilV y c u v next fb) :
 (∃ r, next r ∧ (u = .nilIface → v = .nilIface → c = true) ∧ (∀ cs, u ≠ .agg cs) ∧ (∀ k b, u ≠ .float k b) ∧ (∀ k a b, u ≠ .complex k a b) ∧ ∀ w, (Op.equal t u v).run P w = .ok r w) ∨ fb := by
 have he : ∀ u v, Op.equal t u v = Op.equalIn (9999 + 1) t u v := fun _ _ => rfl
 simp only [he]
 clear he
 generalize 9999 = d
 unfold nilV at h
 split at h <;> simp only [Says] at hs
 all_goals first
  | exact .inr h
  | (refine .inl ⟨_, h, by simp, by simp, by simp, by simp, fun w => ?_⟩; simp [Op.equalIn, run_underlying, hs]; done)
  | (obtain ⟨_, _, _, hs⟩ := hs; refine .inl ⟨_, h, by simp, by simp, by simp, by simp, fun w => ?_⟩; simp [Op.equalIn, run_underlying, hs]; done)
  | (obtain ⟨_, hs⟩ := hs; cases c; · exact .inr h
     refine .inl ⟨_, h, by simp, by simp, by simp, by simp, fun w => ?_⟩; simp [Op.equalIn, run_underlying, hs]; done)
  | (obtain ⟨_, hs⟩ := hs; refine .inl ⟨_, h, by simp, by simp, by simp, by simp, fun w => ?_⟩; simp [Op.equalIn, run_underlying, hs]; done)
  | (obtain ⟨hs, _⟩ := hs; refine .inl ⟨_, h, by simp, by simp, by simp, by simp, fun w => ?_⟩; simp [Op.equalIn, run_underlying, hs]; done)
theorem qcy (op : BinOp) (t : TypeId) (x y : Operand) (k k' : IntKind) (a b : Int) (P : Program) (w : World) : (eqGuard op t x y (.int k a) (.int k' b)).run P w = .ok () w := by
 unfold eqGuard; split <;> simp
theorem guard_str (op : BinOp) (t : TypeId) (x y : Operand) (a b : ByteArray) (P : Program) (w : World) : (eqGuard op t x y (.string a) (.string b)).run P w = .ok () w := by
 unfold eqGuard; split <;> simp
theorem qeW {op : BinOp} {t : TypeId} {x y : Operand} {u v : Value} {P : Program} (h1 : u = .nilIface → v = .nilIface → (isC x || isC y) = true) (h2 : ∀ cs, u ≠ .agg cs) (w : World) : (eqGuard op t x y u v).run P w = .ok () w := by
 have key : (match u, v with
  | .nilIface, .nilIface => if (isC x || isC y) then (pure () : Sem Unit) else fatal ""
  | .agg _, .agg _ => fatal ""
  | _, _ => pure ()).run P w = .ok () w := by
  split
  · simp [h1 rfl rfl]
  · exact (h2 _ rfl).elim
  · simp
 cases u <;> cases v <;> first | (exact absurd rfl (h2 _)) | (cases op <;> simp [eqGuard]; done) | skip
 have := h1 rfl rfl
 cases op <;> cases x <;> cases y <;> simp_all [eqGuard, isC]
theorem binV_ok {P : Program} {T : Tab} (hT : TabOk P T) {op : BinOp} {t : TypeId} {x y : Operand} {u v : Value} {next : Value → Prop} {fb : Prop} (h : binV T op t (isC x || isC y) u v next fb) :
 (∃ r, next r ∧ ∀ w, (do eqGuard op t x y u v; binOp op t u v : Sem Value).run P w = .ok r w) ∨ fb := by
 unfold binV at h
 split at h
 · refine .inl ?_
   rename_i k a k' b
   split at h
   · refine ⟨_, h.go.ok, fun w => ?_⟩
     have := h.y0
     simp only [Sem.run_bind, qcy, Result.andThen_ok]
     simp [binOp, Op.shift, show ¬ b < 0 by omega]
   · refine ⟨_, h.go, fun w => ?_⟩
     have := h.y0
     simp only [Sem.run_bind, qcy, Result.andThen_ok]
     simp [binOp, Op.shift, show ¬ b < 0 by omega]
   · rename_i h1 h2
     cases hk : keq k k'
     · rw [hk] at h; exact h.elim
     · rw [hk] at h
       obtain rfl := keq_eq hk
       obtain ⟨r, hr, hrun⟩ := intV_ok (P := P) h
       exact ⟨r, hr, fun w => by simp only [Sem.run_bind, qcy, Result.andThen_ok, hrun t w h1 h2]⟩
 · obtain ⟨r, hr, hrun⟩ := strV_ok (P := P) h
   exact .inl ⟨r, hr, fun w => by simp only [Sem.run_bind, guard_str, Result.andThen_ok, hrun t w]⟩
 · rename_i hn1 hn2
   split at h
   · obtain ⟨y, n, hk, hrow⟩ := hT.row h
     rcases nilV_ok (qG hrow) hk with ⟨r, hr, g1, g2, g3, g4, hrun⟩ | hfb
     · refine .inl ⟨_, hr, fun w => ?_⟩
       simp only [Sem.run_bind, qeW g1 g2, Result.andThen_ok]
       have e : binOp .eql t u v = (do pure (.bool (← Op.equal t u v)) : Sem Value) := by
        cases u <;> cases v <;> first | rfl | exact (hn1 _ _ _ _ rfl rfl).elim | exact (hn2 _ _ rfl rfl).elim | exact (g3 _ _ rfl).elim | exact (g4 _ _ _ rfl).elim
       rw [e]; simp [hrun]
     · exact .inr hfb
   · obtain ⟨y, n, hk, hrow⟩ := hT.row h
     rcases nilV_ok (qG hrow) hk with ⟨r, hr, g1, g2, g3, g4, hrun⟩ | hfb
     · refine .inl ⟨_, hr, fun w => ?_⟩
       simp only [Sem.run_bind, qeW g1 g2, Result.andThen_ok]
       have e : binOp .neq t u v = (do pure (.bool (!(← Op.equal t u v))) : Sem Value) := by
        cases u <;> cases v <;> first | rfl | exact (hn1 _ _ _ _ rfl rfl).elim | exact (hn2 _ _ rfl rfl).elim | exact (g3 _ _ rfl).elim | exact (g4 _ _ _ rfl).elim
       rw [e]; simp [hrun]
     · exact .inr hfb
   · exact .inr h
theorem unV_ok {P : Program} {op : UnOp} {v : Value} {next : Value → Prop} {fb : Prop} (h : unV op v next fb) : (∃ r, next r ∧ ∀ w, (Op.unary op v).run P w = .ok r w) ∨ fb := by
 unfold unV at h
 split at h
 · exact .inl ⟨_, h, fun w => by simp [Op.unary]⟩
 · exact .inl ⟨_, h.ok, fun w => by simp [Op.unary, Op.intArith]⟩
 · exact .inl ⟨_, h, fun w => by simp [Op.unary, Op.intBits, notI, Qz]⟩
 · exact .inr h
end
section
open Go Go.RowKit
structure Cx where
 P : Program
 T : Tab
 N : Nat
 M : Bks
 B : World
 F : Option Nat := none
def Cx.fence (C : Cx) : Fence := match C.F with
 | none => Fence.wide
 | some l => Fence.wide.inRound l
def Fin (C : Cx) (next : Value → List Ent → Prop) : Result Next → Prop
 | .ok (.value v) w' => ∃ L', St C.M C.B w' L' ∧ next v L'
 | .ok .skip w' => ∃ L', St C.M C.B w' L' ∧ next undef L'
 | .ok (.enter g args) w' => Calls C.P g args w' fun e w'' => ∃ v L', e = .returned v ∧ St C.M C.B w'' L' ∧ next v L'
 | .ok (.row row args) w' => Rows C.P row args w' fun v w'' => ∃ L', St C.M C.B w'' L' ∧ next v L'
 | .ok (.round l f tmps assign body) w' => ∀ m, RoundIn Fence.wide m C.P l f tmps assign body w' fun e w'' => ∃ v L', e = .returned v ∧ St C.M C.B w'' L' ∧ next v L'
 | _ => False
def OpS (C : Cx) (o : Oper) (ρ : Operand → Value) (w : World) (next : Value → List Ent → Prop) : Prop := Fin C next ((execOp ρ o).run C.P w)
structure OpP (C : Cx) (o : Oper) (σ : Fr) (L : List Ent) (next : Value → List Ent → Prop) : Prop where
 go : ∀ ρ w, Fit σ ρ → St C.M C.B w L → OpS C o ρ w next
structure qcZ (b : Bool) (p q : Prop) : Prop where
 t : b = true → p
 f : b = false → q
inductive Cv (k : IntKind) (n : Int) (next : Value → Prop) : Prop
 | same (lo : mn k ≤ n) (hi : n ≤ mx k) (go : next (.int k n))
 | wrap (go : next (.int k (modk k n)))
 | «as» (r' : Int) (e : n = r') (lo : mn k ≤ r') (hi : r' ≤ mx k) (go : next (.int k r'))
 | to (r' : Int) (e : modk k n = r') (go : next (.int k r'))
def nad : Nat → Nat → Nat
 | 0, b => b
 | a + 1, b => a + 1 + b
theorem qi (a b : Nat) : nad a b = a + b := by cases a <;> simp [nad]
def nmu (a : Nat) : Nat → Nat
 | 1 => a
 | n => a * n
theorem qh (a b : Nat) : nmu a b = a * b := by unfold nmu; split <;> simp
structure IdxP (i : Int) (n : Nat) (p : Prop) : Prop where
 lo : 0 ≤ i
 hi : i < n
 go : p
inductive Ld1 (C : Cx) (L : List Ent) (b o : Nat) (next : Value → Prop) : Prop
 | mk (v : Value) (h : ∀ w, St C.M C.B w L → w.cell? ⟨b, o, none⟩ = some v) (go : next v)
inductive LdN (C : Cx) (L : List Ent) (b o n : Nat) (next : Value → Prop) : Prop
 | mk (c : Array Value) (hn : c.size = n) (h : ∀ w, St C.M C.B w L → w.rangeAt b o c.toList) (go : next (.agg c))
inductive StP (C : Cx) (t : TypeId) (L : List Ent) (b o : Nat) (v : Value) (next : List Ent → Prop) : Prop
 | mk (L' : List Ent) (h : ∀ w, St C.M C.B w L → ∃ w', (storeVar t ⟨b, o, none⟩ v).run C.P w = .ok () w' ∧ St C.M C.B w' L') (go : next L')
inductive BuP (P : Program) (t : TypeId) (ps : Array (Nat × Value)) (next : Value → Prop) : Prop
 | mk (v : Value) (h : ∀ w, (Instr.build t ps).run P w = .ok v w) (go : next v)
inductive BsP (C : Cx) (t n : Nat) (ps : Array (Nat × Value)) (L : List Ent) (next : Value → List Ent → Prop) : Prop
 | mk (c : Array Value) (e : TypeId) (h : ∀ w, (Instr.buildSlice t n ps).run C.P w = .ok (.slice (some ⟨w.heap.size, 0, none⟩) n n) (w.alloc (.cells c e))) (go : ∀ b, next (.slice (some ⟨b, 0, none⟩) n n) (L ++ [cl b c e]))
inductive MsP (C : Cx) (t : TypeId) (u v : Value) (L : List Ent) (next : Value → List Ent → Prop) : Prop
 | mk (l m : Nat) (c : Array Value) (e : TypeId) (h : ∀ w, (Instr.makeSlice t u v).run C.P w = .ok (.slice (some ⟨w.heap.size, 0, none⟩) l m) (w.alloc (.cells c e))) (go : ∀ b, next (.slice (some ⟨b, 0, none⟩) l m) (L ++ [cl b c e]))
inductive PtP (c : Array Value) (o n : Nat) (agg : Bool) (next : Value → Prop) : Prop
 | cell (v : Value) (ha : agg = false) (h : c[o]? = some v) (go : next v)
 | row (d : Array Value) (ha : agg = true) (h : c.extract o (o + n) = d) (go : next (.agg d))
structure ChP (s : ByteArray) (i : Int) (next : Value → Prop) : Prop where
 lo : 0 ≤ i
 hi : i.toNat < s.size
 go : next (.int .u8 (s[i.toNat]).toNat)
structure LenP (n m : Nat) (p : Prop) : Prop where
 h : n ≤ m
 go : p
def oi : Option Int → Nat → Int
 | some x, _ => x
 | none, n => n
inductive SlP (len cap : Nat) (lo hi mx : Option Int) (next : Nat → Nat → Nat → Prop) : Prop
 | mk (l h m : Nat) (hm : oi mx cap = (m : Int)) (hh : oi hi len = (h : Int)) (hl : oi lo 0 = (l : Int)) (h1 : l ≤ h) (h2 : h ≤ m) (h3 : m ≤ cap) (h4 : hi = none → mx = none) (go : next l h m)
inductive PlP (m l : Nat) (a a' : Addr) (next : Addr → Prop) : Prop
 | on (h : l < m) (go : next a')
 | all (h : m = l) (go : next a)
structure zJ (C : Cx) (g : FuncId) (args : List Value) (L : List Ent) (next : Value → List Ent → Prop) : Prop where
 go : ∀ w, St C.M C.B w L → Calls C.P g args.toArray w fun e w' => ∃ v L', e = .returned v ∧ St C.M C.B w' L' ∧ next v L'
def QM (T : Tab) (g : Nat) : Bool := Nat.blt g T.fns && !T.ext.contains g
def oev (σ : Fr) : Option Operand → (Option Value → Prop) → Prop
 | none, k => k none
 | some x, k => ev σ x fun v => k (some v)
def oint : Option Value → (Option Int → Prop) → Prop
 | none, k => k none
 | some (.int _ n), k => k (some n)
 | _, _ => False
def pevs (σ : Fr) : List (Nat × Operand) → (List (Nat × Value) → Prop) → Prop
 | [], k => k []
 | p :: l, k => ev σ p.2 fun v => pevs σ l fun vs => k ((p.1, v) :: vs)
def cvV (C : Cx) (s d : TypeId) (v : Value) (next : Value → Prop) (fb : Prop) : Prop := look C.T.rows s fun ys _ => look C.T.rows d fun y _ => match ys with
 | .sl _ _ => fb
 | _ => match y, v with
  | .int k, .int _ n => Cv k n next
  | .str, .string s => next (.string s)
  | _, _ => fb
def ncV (v : Value) (next : Value → Prop) (fb : Prop) : Prop := match v with
 | .pointer (some a) => next (.pointer (some a))
 | .iface t u => next (.iface t u)
 | .func (.func g) a b => next (.func (.func g) a b)
 | _ => fb
def exV (v : Value) (i : Nat) (next : Value → Prop) : Prop := match v with
 | .tuple vs => Z9 vs.toList i next
 | _ => False
def faV (C : Cx) (t : TypeId) (v : Value) (f : Nat) (next : Value → Prop) : Prop := look C.T.rows t fun y _ => match y, v with
 | .st fs, .pointer (some ⟨b, o, none⟩) => Z9 fs f fun p => next (.pointer (some ⟨b, nad o p.1, none⟩))
 | _, _ => False
def iaV (C : Cx) (t : TypeId) (v i : Value) (next : Value → Prop) : Prop := look C.T.rows t fun y _ => match y, v, i with
 | .arr len _ n _, .pointer (some ⟨b, o, none⟩), .int _ i => IdxP i len (next (.pointer (some ⟨b, nad o (nmu i.toNat n), none⟩)))
 | .sl _ n, .slice (some ⟨b, o, none⟩) len _, .int _ i => IdxP i len (next (.pointer (some ⟨b, nad o (nmu i.toNat n), none⟩)))
 | _, _, _ => False
def ixV (C : Cx) (t : TypeId) (v i : Value) (next : Value → Prop) : Prop := look C.T.rows t fun y _ => match y, v, i with
 | .arr len _ n g, .agg c, .int _ i => IdxP i len (PtP c (nmu i.toNat n) n g next)
 | .str, .string s, .int _ i => ChP s i next
 | _, _, _ => False
def fiV (C : Cx) (t : TypeId) (v : Value) (f : Nat) (next : Value → Prop) : Prop := look C.T.rows t fun y _ => match y, v with
 | .st fs, .agg c => Z9 fs f fun p => PtP c p.1 p.2.1 p.2.2 next
 | _, _ => False
def ldV (C : Cx) (t : TypeId) (v : Value) (L : List Ent) (next : Value → Prop) : Prop := look C.T.rows t fun y n => match v with
 | .pointer (some ⟨b, o, none⟩) => cond y.agg (LdN C L b o n next) (Ld1 C L b o next)
 | _ => False
def sliM (y : Ty) (v : Value) (lo hi mx : Option Int) (next : Value → Prop) (fb : Prop) : Prop := match y, v with
 | .arr len _ n _, .pointer (some ⟨b, o, none⟩) => SlP len len lo hi mx fun l h m => PlP m l ⟨b, o, none⟩ ⟨b, nad o (nmu l n), none⟩ fun a => next (.slice (some a) (h - l) (m - l))
 | .sl _ n, .slice (some ⟨b, o, none⟩) len cap => SlP len cap lo hi mx fun l h m => PlP m l ⟨b, o, none⟩ ⟨b, nad o (nmu l n), none⟩ fun a => next (.slice (some a) (h - l) (m - l))
 | .sl _ _, .slice none len cap => SlP len cap lo hi mx fun l h m => next (.slice none (h - l) (m - l))
 | .str, .string s => match mx with
  | none => SlP s.size s.size lo hi none fun l h _ => next (.string (s.extract l h))
  | some _ => fb
 | _, _ => fb
structure SliP (y : Ty) (v : Value) (lo hi mx : Option Int) (next : Value → Prop) (fb : Prop) : Prop where
 go : sliM y v lo hi mx next fb
def sliV (C : Cx) (t : TypeId) (v : Value) (lo hi mx : Option Int) (next : Value → Prop) (fb : Prop) : Prop := look C.T.rows t fun y _ => SliP y v lo hi mx next fb
def lenV (C : Cx) (t : TypeId) (v : Value) (next : Value → Prop) (fb : Prop) : Prop := look C.T.rows t fun y _ => match y, v with
 | .str, .string s => next (.int .i64 s.size)
 | .sl _ _, .slice _ n _ => next (.int .i64 n)
 | .arr len _ _ _, _ => next (.int .i64 len)
 | .map _ _, .map none => next (.int .i64 0)
 | _, _ => fb
def capV (C : Cx) (t : TypeId) (v : Value) (next : Value → Prop) (fb : Prop) : Prop := look C.T.rows t fun y _ => match y, v with
 | .sl _ _, .slice _ _ n => next (.int .i64 n)
 | _, _ => fb
def saV (C : Cx) (t : TypeId) (v : Value) (next : Value → Prop) : Prop := look C.T.rows t fun y _ => match y, v with
 | .arr len _ _ _, .slice a n _ => LenP len n (next (.pointer a))
 | _, _ => False
def miV (C : Cx) (t : TypeId) (v : Value) (next : Value → Prop) : Prop := look C.T.rows t fun y _ => match y with
 | .ifc => False
 | _ => next (.iface t v)
structure YieldP (C : Cx) (l : Nat) (args : List Value) (L : List Ent) (next : Value → List Ent → Prop) : Prop where
 go : ∀ w, St C.M C.B w L → ∀ m, YieldAt Fence.wide m C.P l args.toArray w fun e w' => ∃ v L', e = .returned v ∧ St C.M C.B w' L' ∧ next v L'
def callV (C : Cx) (f : Value) (args : List Value) (L : List Ent) (next : Value → List Ent → Prop) (fb : Prop) : Prop := match f with
 | .func (.func g) fs cs => cond (QM C.T g) (zJ C g (fs.toList ++ (args ++ cs.toList)) L next) fb
 | .func (.yield l) fs _ => YieldP C l (fs.toList ++ args) L next
 | _ => fb
def stoV (C : Cx) (t : TypeId) (u v : Value) (L : List Ent) (next : List Ent → Prop) : Prop := match u with
 | .pointer (some ⟨b, o, none⟩) => StP C t L b o v next
 | _ => False
def tx (C : Cx) (o : Oper) (σ : Fr) (L : List Ent) (next : Value → Prop) (fb : Prop) : Prop := match o.op with
 | .move x => ev σ x next
 | .assign x => ev σ x next
 | .pick c a b => ev σ c fun u => ev σ a fun x => ev σ b fun y => match u with
  | .bool t => qcZ t (next x) (next y)
  | _ => fb
 | .build t ps => pevs σ ps.toList fun vs => BuP C.P t vs.toArray next
 | .load t x => ev σ x fun v => ldV C t v L next
 | .nilCheck x => ev σ x fun v => ncV v next fb
 | .binOp op t x y _ => ev σ x fun u => ev σ y fun v => binV C.T op t (isC x || isC y) u v next fb
 | .unOp op _ x => ev σ x fun v => unV op v next fb
 | .convert s d x => ev σ x fun v => cvV C s d v next fb
 | .sliceToArrayPointer t x => ev σ x fun v => saV C t v next
 | .makeInterface t x => ev σ x fun v => miV C t v next
 | .makeFunc fn fs cs => evs σ fs.toList fun a => evs σ cs.toList fun b => next (.func fn a.toArray b.toArray)
 | .slice t x lo hi m => ev σ x fun v => oev σ lo fun lo => oev σ hi fun hi => oev σ m fun m => oint lo fun lo => oint hi fun hi => oint m fun m => sliV C t v lo hi m next fb
 | .fieldAddr t x f => ev σ x fun v => faV C t v f next
 | .field t x f => ev σ x fun v => fiV C t v f next
 | .indexAddr t x i => ev σ x fun v => ev σ i fun j => iaV C t v j next
 | .index t x i => ev σ x fun v => ev σ i fun j => ixV C t v j next
 | .extract x i => ev σ x fun v => exV v i next
 | .call c => match c.callee with
  | .builtin .len => match c.args.toList, c.argTypes.toList with
   | [x], [t] => ev σ x fun v => lenV C t v next fb
   | _, _ => fb
  | .builtin .cap => match c.args.toList, c.argTypes.toList with
   | [x], [t] => ev σ x fun v => capV C t v next fb
   | _, _ => fb
  | _ => fb
 | _ => fb
structure ZV (C : Cx) (m : Sem Value) (L : List Ent) (next : Value → List Ent → Prop) : Prop where
 go : ∀ w, St C.M C.B w L → ∃ v w' L', m.run C.P w = .ok v w' ∧ St C.M C.B w' L' ∧ next v L'
structure SemU (C : Cx) (m : Sem Unit) (L : List Ent) (next : List Ent → Prop) : Prop where
 go : ∀ w, St C.M C.B w L → ∃ w' L', m.run C.P w = .ok () w' ∧ St C.M C.B w' L' ∧ next L'
structure BiP (C : Cx) (b : Builtin) (ts : Array TypeId) (t : TypeId) (cs : Array Bool) (vs : List Value) (L : List Ent) (next : Value → List Ent → Prop) : Prop where
 go : ∀ w, St C.M C.B w L → Fin C next ((builtin b ts t cs vs.toArray).run C.P w)
def consts (c : Call) : Array Bool := c.args.map fun | .const _ => true | _ => false
def ox (C : Cx) (o : Oper) (σ : Fr) (L : List Ent) (next : Value → List Ent → Prop) : Prop := match o.op with
 | .alloc t => zof C.T.zero t fun c => ∀ b, next (.pointer (some ⟨b, 0, none⟩)) (L ++ [cl b c t])
 | .box t x => ev σ x fun v => ∀ b, next (.pointer (some ⟨b, 0, none⟩)) (L ++ [cl b v.cells t])
 | .buildSlice t n ps => pevs σ ps.toList fun vs => BsP C t n vs.toArray L next
 | .store t x y => ev σ x fun u => ev σ y fun v => stoV C t u v L fun L' => next undef L'
 | .makeSlice t x y => ev σ x fun u => ev σ y fun v => MsP C t u v L next
 | .binOp op t x y _ => ev σ x fun u => ev σ y fun v => binV C.T op t (isC x || isC y) u v (fun r => next r L) (ZV C (do eqGuard op t x y u v; binOp op t u v) L next)
 | .convert s d x => ev σ x fun v => cvV C s d v (fun r => next r L) (ZV C (convert s d v) L next)
 | .lookup t x i ok => ev σ x fun v => ev σ i fun j => ZV C (Instr.lookup t v j ok) L next
 | .mapUpdate t m k x => ev σ m fun m => ev σ k fun k => ev σ x fun v => SemU C (Instr.mapUpdate t m k v) L fun L' => next undef L'
 | .insert t m k x => ev σ m fun m => ev σ k fun k => ev σ x fun v => SemU C (Instr.mapUpdate t m k v) L fun L' => next undef L'
 | .makeMap t none => ZV C (Instr.makeMap t none) L next
 | .mapEntry t m k => ev σ m fun m => ev σ k fun k => ZV C (Instr.mapEntry t m k) L next
 | .entryStore t m k x => ev σ m fun m => ev σ k fun k => ev σ x fun v => SemU C (Instr.entryStore t m k v) L fun L' => next undef L'
 | .range t x => ev σ x fun v => ZV C (Instr.range t v) L next
 | .next x s => ev σ x fun v => ZV C (Instr.next v s o.type) L next
 | .entry x => ev σ x fun v => ZV C (Instr.entry v) L next
 | .typeAssert x t u ok => ev σ x fun v => ZV C (Instr.typeAssert v t u ok) L next
 | .call c => match c.callee with
  | .value f => ev σ f fun g => evs σ c.args.toList fun vs => callV C g vs L next (OpP C o σ L next)
  | .builtin .len => tx C o σ L (fun v => next v L) (OpP C o σ L next)
  | .builtin .cap => tx C o σ L (fun v => next v L) (OpP C o σ L next)
  | .builtin b => evs σ c.args.toList fun vs => BiP C b c.argTypes o.type (consts c) vs L next
  | .invoke _ _ => OpP C o σ L next
 | _ => tx C o σ L (fun v => next v L) (OpP C o σ L next)
variable {C : Cx} {o : Oper} {σ : Fr} {L : List Ent} {ρ : Operand → Value} {w : World} {next : Value → List Ent → Prop}
theorem Fin.val {next : Value → List Ent → Prop} {r : Result Next} {v : Value} {w' : World} (h : r = .ok (.value v) w') (hs : St C.M C.B w' L) (hn : next v L) : Fin C next r := by
 rw [h]; exact ⟨L, hs, hn⟩
theorem OpS.val {s : Sem Value} {v : Value} {w' : World} {L' : List Ent} (he : execOp ρ o = (do pure (.value (← s)))) (hr : s.run C.P w = .ok v w') (hs : St C.M C.B w' L') (hn : next v L') : OpS C o ρ w next := by
 unfold OpS
 rw [he, Sem.run_bind, hr]
 exact ⟨L', hs, hn⟩
theorem qak {P : Program} {t : TypeId} {i : TypeInfo} (h : P.info? t = some i) (w : World) : (typeInfo t).run P w = .ok i w := by
 simp [typeInfo, program, Sem.run, h]
theorem Qi {P : Program} {t n : Nat} (h : (P.info? t).map (·.size) = some n) (w : World) : (sizeOf t).run P w = .ok n w := by
 cases hi : P.info? t with
 | none => rw [hi] at h; cases h
 | some i => rw [hi] at h; simp [sizeOf, qak hi]; simpa using h
theorem qa1 {P : Program} {t : TypeId} {g : Bool} (h : zT (P.underlying t) = g) (hs : (P.underlying t).isSome = true) (w : World) : (isAgg t).run P w = .ok g w := by
 cases hu : P.underlying t with
 | none => rw [hu] at hs; cases hs
 | some d => rw [hu] at h; subst h; cases d <;> simp [isAgg, run_underlying hu, zT]
theorem Says.agg {P : Program} {t : Nat} {y : Ty} (h : Says P t y) : zT (P.underlying t) = y.agg ∧ (P.underlying t).isSome = true := by
 cases y <;> simp only [Says] at h
 case ptr => obtain ⟨_, h⟩ := h; rw [h]; exact ⟨rfl, rfl⟩
 case ifc => obtain ⟨_, h⟩ := h; rw [h]; exact ⟨rfl, rfl⟩
 case fn => obtain ⟨_, _, _, h⟩ := h; rw [h]; exact ⟨rfl, rfl⟩
 case st => obtain ⟨_, h, _⟩ := h; rw [h]; exact ⟨rfl, rfl⟩
 case sl => rw [h.1]; exact ⟨rfl, rfl⟩
 case arr => rw [h.1]; exact ⟨rfl, rfl⟩
 all_goals rw [h]; exact ⟨rfl, rfl⟩
theorem Qp (b o n : Nat) : (⟨b, o, none⟩ : Addr).add n = ⟨b, o + n, none⟩ := by unfold Addr.add; split <;> simp_all
theorem PtP.ok {P : Program} {c : Array Value} {off n : Nat} {g : Bool} {next : Value → Prop} {t : TypeId} (h : PtP c off n g next) (hn : (P.info? t).map (·.size) = some n) (hg : zT (P.underlying t) = g) (hs : (P.underlying t).isSome = true) :
 ∃ v, next v ∧ ∀ w, (part t c off).run P w = .ok v w := by
 cases h with
 | cell v ha h go => subst ha; exact ⟨v, go, fun w => by simp [part, qa1 hg hs, h]⟩
 | row d ha h go => subst ha; exact ⟨_, go, fun w => by simp [part, qa1 hg hs, Qi hn, h]⟩
theorem run_bound {P : Program} {x : Int} {n m : Nat} {k : IntKind} {code : BoundsCode} (hx : x = m) (hm : m ≤ n) (w : World) : (Instr.sliceBound (.int k x) n code).run P w = .ok m w := by
 subst hx
 simp [Instr.sliceBound, asIntOf, hm]
theorem run_bounds {P : Program} {s : Bool} {len cap : Nat} {lo hi mx : Option Value} {lo' hi' mx' : Option Int} {l h m : Nat} (e1 : ∀ v, lo = some v → ∃ k n, v = .int k n ∧ lo' = some n) (e1n : lo = none → lo' = none) (e2 : ∀ v, hi = some v → ∃ k n, v = .int k n ∧ hi' = some n) (e2n : hi = none → hi' = none)
 (e3 : ∀ v, mx = some v → ∃ k n, v = .int k n ∧ mx' = some n) (e3n : mx = none → mx' = none)
 (hm : oi mx' cap = (m : Int)) (hh : oi hi' len = (h : Int)) (hl : oi lo' 0 = (l : Int)) (h1 : l ≤ h) (h2 : h ≤ m) (h3 : m ≤ cap) (h4 : hi' = none → mx' = none) (w : World) : (Instr.sliceBounds s len cap lo hi mx).run P w = .ok (l, h, m) w := by
 have rb : ∀ (k : IntKind) (a n : Nat) (code : BoundsCode), a ≤ n → ∀ w, (Instr.sliceBound (.int k a) n code).run P w = .ok a w := fun k a n code h w => run_bound rfl h w
 have xm : (mx = none ∧ m = cap) ∨ ∃ k, mx = some (.int k m) := by
  cases mx with
  | none => rw [e3n rfl] at hm; simp only [oi] at hm; exact .inl ⟨rfl, by omega⟩
  | some v => obtain ⟨k, n, rfl, hn⟩ := e3 v rfl; rw [hn] at hm; simp only [oi] at hm; subst hm; exact .inr ⟨k, rfl⟩
 have xh : (hi = none ∧ mx = none ∧ h = len) ∨ ∃ k, hi = some (.int k h) := by
  cases hi with
  | none =>
   have hn := e2n rfl
   rw [hn] at hh; simp only [oi] at hh
   refine .inl ⟨rfl, ?_, by omega⟩
   cases mx with
   | none => rfl
   | some v => obtain ⟨k, n, rfl, hn'⟩ := e3 v rfl; have := h4 hn; rw [hn'] at this; cases this
  | some v => obtain ⟨k, n, rfl, hn⟩ := e2 v rfl; rw [hn] at hh; simp only [oi] at hh; subst hh; exact .inr ⟨k, rfl⟩
 have xl : (lo = none ∧ l = 0) ∨ ∃ k, lo = some (.int k l) := by
  cases lo with
  | none => rw [e1n rfl] at hl; simp only [oi] at hl; exact .inl ⟨rfl, by omega⟩
  | some v => obtain ⟨k, n, rfl, hn⟩ := e1 v rfl; rw [hn] at hl; simp only [oi] at hl; subst hl; exact .inr ⟨k, rfl⟩
 clear e1 e1n e2 e2n e3 e3n hm hh hl h4
 rcases xm with ⟨rfl, rfl⟩ | ⟨k1, rfl⟩ <;> rcases xh with ⟨rfl, h5, rfl⟩ | ⟨k2, rfl⟩ <;> rcases xl with ⟨rfl, rfl⟩ | ⟨k3, rfl⟩ <;>
  first | (cases h5; done) | simp [Instr.sliceBounds, rb _ _ _ _ h1, rb _ _ _ _ h2, rb _ _ _ _ h3]
theorem qcp {v : Option Value} {k : Option Int → Prop} (h : oint v k) : ∃ n, k n ∧ (∀ u, v = some u → ∃ q m, u = .int q m ∧ n = some m) ∧ (v = none → n = none) := by
 unfold oint at h
 split at h
 · exact ⟨none, h, by simp, by simp⟩
 · rename_i q n; exact ⟨some n, h, by rintro u hu; obtain rfl := Option.some.inj hu; exact ⟨q, n, rfl, rfl⟩, by simp⟩
 · exact h.elim
theorem qdP {x : Option Operand} {k : Option Value → Prop} (hf : Fit σ ρ) (h : oev σ x k) : k (x.map ρ) := by
 cases x with
 | none => exact h
 | some x => exact hf x (fun v => k (some v)) h
theorem qeO {l : List (Nat × Operand)} {k : List (Nat × Value) → Prop} (hf : Fit σ ρ) (h : pevs σ l k) : k (l.map fun p => (p.1, ρ p.2)) := by
 induction l generalizing k with
 | nil => exact h
 | cons p l ih => exact ih (hf p.2 _ h)
theorem PlP.ok {m l : Nat} {a a' : Addr} {next : Addr → Prop} (h : PlP m l a a' next) : next (if m = l then a else a') := by
 cases h with
 | on h go => rw [if_neg (by omega)]; exact go
 | all h go => rw [if_pos h]; exact go
end
section
open Go Go.RowKit
variable {C : Cx} {o : Oper} {σ : Fr} {L : List Ent} {ρ : Operand → Value} {w : World} {next : Value → List Ent → Prop}
theorem Cv.ok {k : IntKind} {n : Int} {next : Value → Prop} (h : Cv k n next) : next (.int k (k.wrap n)) := by
 cases h with
 | same lo hi go => rw [qai k n lo hi]; exact go
 | wrap go => rw [← qa4]; exact go
 | «as» r' e lo hi go => subst e; rw [qai k _ lo hi]; exact go
 | to r' e go => rw [← qa4, e]; exact go
theorem OpS.now {v : Value} {L' : List Ent} (he : (execOp ρ o).run C.P w = .ok (.value v) w) (hs : St C.M C.B w L') (hn : next v L') : OpS C o ρ w next := Fin.val he hs hn
theorem run_zero {P : Program} {t : TypeId} {c : Array Value} (h : (P.info? t).bind (fun i => i.zero.map (·.cells)) = some c) (w : World) : ∃ v, (zeroValue t).run P w = .ok v w ∧ v.cells = c := by
 cases hi : P.info? t with
 | none => rw [hi] at h; cases h
 | some i =>
  rw [hi] at h
  cases hz : i.zero with
  | none => simp [hz] at h
  | some v => exact ⟨v, by simp [zeroValue, qak hi, hz], by simpa [hz] using h⟩
theorem qdv (P : Program) (t : TypeId) (v : Value) (w : World) : (newVar t v).run P w = .ok ⟨w.heap.size, 0, none⟩ (w.alloc (.cells v.cells t)) := by
 simp [newVar, newRow, newObj, Sem.run]
theorem lookup_arr {vs : Array Value} {i : Nat} {k : Value → Prop} (h : Z9 vs.toList i k) : ∃ v, vs[i]? = some v ∧ k v := by
 obtain ⟨v, hv, hk⟩ := ZR _ _ _ h
 exact ⟨v, by simpa using hv, hk⟩
theorem bounds_ok {P : Program} {lo hi m : Option Operand} {σ : Fr} {fb : Option Int → Option Int → Option Int → Prop} (hf : Fit σ ρ)
 (h : oev σ lo fun lo => oev σ hi fun hi => oev σ m fun m => oint lo fun lo => oint hi fun hi => oint m fun m => fb lo hi m) :
 ∃ lo' hi' m', fb lo' hi' m' ∧ (m = none ↔ m' = none) ∧ ∀ (s : Bool) (len cap l h m1 : Nat), oi m' cap = (m1 : Int) → oi hi' len = (h : Int) → oi lo' 0 = (l : Int) → l ≤ h → h ≤ m1 → m1 ≤ cap → (hi' = none → m' = none) →
  ∀ w, (Instr.sliceBounds s len cap (lo.map ρ) (hi.map ρ) (m.map ρ)).run P w = .ok (l, h, m1) w := by
 have h1 := qdP hf h
 have h2 := qdP hf h1
 have h3 := qdP hf h2
 obtain ⟨lo', h4, a1, a2⟩ := qcp h3
 obtain ⟨hi', h5, b1, b2⟩ := qcp h4
 obtain ⟨m', h6, c1, c2⟩ := qcp h5
 refine ⟨lo', hi', m', h6, ⟨fun e => c2 (by rw [e]; rfl), fun e => ?_⟩, fun s len cap l h m1 e1 e2 e3 e4 e5 e6 e7 w => run_bounds a1 a2 b1 b2 c1 c2 e1 e2 e3 e4 e5 e6 e7 w⟩
 cases m with
 | none => rfl
 | some x => obtain ⟨q, n, _, hn⟩ := c1 _ rfl; rw [e] at hn; cases hn
theorem Zh {P : Program} {g : Nat} (h : entOk P g = true) : ∃ fn : Func, P.funcs[g]? = some fn ∧ (fn.name == "runtime.NumGoroutine") = false ∧ fn.body.isNone = false := by
 unfold entOk at h
 cases hf : P.funcs[g]? with
 | none => rw [hf] at h; cases h
 | some fn =>
  rw [hf] at h
  simp only [Bool.and_eq_true, Bool.not_eq_true'] at h
  refine ⟨fn, rfl, h.1, ?_⟩
  cases hb : fn.body <;> simp_all
theorem zl {P : Program} {T : Tab} (hT : TabOk P T) {g : Nat} (h : QM T g = true) : entOk P g = true := by
 unfold QM at h
 simp only [Bool.and_eq_true, Bool.not_eq_true'] at h
 have h1 := List.all_eq_true.1 hT.fns g (List.mem_range.2 (by simpa using h.1))
 rw [h.2] at h1
 simpa using h1
theorem Qe {P : Program} {s : Sem Value} {v : Value} {w : World} (he : execOp ρ o = (do pure (.value (← s)))) (hr : s.run P w = .ok v w) : (execOp ρ o).run P w = .ok (.value v) w := by
 rw [he, Sem.run_bind, hr]; rfl
theorem tx_ok (hT : TabOk C.P C.T) (hf : Fit σ ρ) {next : Value → Prop} {fb : Prop} (h : tx C o σ L next fb) : (∃ v, next v ∧ ∀ w, St C.M C.B w L → (execOp ρ o).run C.P w = .ok (.value v) w) ∨ fb := by
 unfold tx at h
 split at h
 · rename_i x ho; exact .inl ⟨_, (hf x _ h), fun w hs => by simp only [execOp, ho]; rfl⟩
 · rename_i x ho; exact .inl ⟨_, (hf x _ h), fun w hs => by simp only [execOp, ho]; rfl⟩
 · rename_i c a b ho
   have h1 := hf b _ (hf a _ (hf c _ h))
   split at h1
   · rename_i t hc
     cases t
     · exact .inl ⟨_, (h1.f rfl), fun w hs => by simp only [execOp, ho]; simp [hc, asBool]⟩
     · exact .inl ⟨_, (h1.t rfl), fun w hs => by simp only [execOp, ho]; simp [hc, asBool]⟩
   · exact .inr h1
 · rename_i t ps ho
   obtain ⟨v, hv, go⟩ := qeO hf h
   refine .inl ⟨_, go, fun w hs => Qe (s := Instr.build t (ps.map fun (i, x) => (i, ρ x))) (by simp only [execOp, ho]) ?_⟩
   have e : (ps.map fun (i, x) => (i, ρ x)) = (ps.toList.map fun p => (p.1, ρ p.2)).toArray := by apply Array.ext'; simp
   rw [e]; exact hv w
 · rename_i t x ho
   obtain ⟨y, n, hk, hrow⟩ := hT.row (hf x _ h)
   split at hk
   · rename_i b o hx
     have hag := (qG hrow).agg
     cases hy : y.agg
     · rw [hy] at hk hag
       obtain ⟨v, hc, go⟩ := hk
       exact .inl ⟨_, go, fun w hs => Qe (s := Instr.loadAt t (ρ x)) (by simp only [execOp, ho]) (by simp [hx, Instr.loadAt, Instr.sureAddr, loadVar, qa1 hag.1 hag.2, hc w hs])⟩
     · rw [hy] at hk hag
       obtain ⟨c, hn, hc, go⟩ := hk
       refine .inl ⟨_, go, fun w hs => Qe (s := Instr.loadAt t (ρ x)) (by simp only [execOp, ho]) ?_⟩
       cases hu : C.P.underlying t with
       | none => rw [hu] at hag; cases hag.2
       | some d =>
        rw [hu] at hag
        have := run_loadAt_mid (P := C.P) w b o t c.toList d (hc w hs) hu (by cases d <;> simp_all [zT]) (by rw [qdy hrow]; simpa using hn.symm)
        rw [hx]; simpa using this
   · exact hk.elim
 · rename_i x ho
   have h1 := hf x _ h
   unfold ncV at h1
   split at h1
   · rename_i a hx; exact .inl ⟨_, h1, fun w hs => by simp only [execOp, ho]; simp [hx]⟩
   · rename_i t u hx; exact .inl ⟨_, h1, fun w hs => by simp only [execOp, ho]; simp [hx]⟩
   · rename_i g a b hx; exact .inl ⟨_, h1, fun w hs => by simp only [execOp, ho]; simp [hx]⟩
   · exact .inr h1
 · rename_i op t x y z ho
   rcases binV_ok hT (hf y _ (hf x _ h)) with ⟨r, hr, hrun⟩ | hfb
   · exact .inl ⟨_, hr, fun w hs => Qe (s := do eqGuard op t x y (ρ x) (ρ y); binOp op t (ρ x) (ρ y)) (by simp only [execOp, ho]) (hrun w)⟩
   · exact .inr hfb
 · rename_i op t x ho
   rcases unV_ok (P := C.P) (hf x _ h) with ⟨r, hr, hrun⟩ | hfb
   · exact .inl ⟨_, hr, fun w hs => Qe (s := Op.unary op (ρ x)) (by simp only [execOp, ho]) (hrun w)⟩
   · exact .inr hfb
 · rename_i s d x ho
   obtain ⟨y0, n0, hk0, hrow0⟩ := hT.row (hf x _ h)
   obtain ⟨y, n, hk, hrow⟩ := hT.row hk0
   have hsay := qG hrow
   have hs0 := (qG hrow0).agg.2
   cases hu0 : C.P.underlying s with
   | none => rw [hu0] at hs0; cases hs0
   | some d0 =>
   split at hk
   · exact .inr hk
   split at hk
   · rename_i k q m hx
     refine .inl ⟨_, hk.ok, fun w hs => Qe (s := convert s d (ρ x)) (by simp only [execOp, ho]) ?_⟩
     simp [convert, hx, run_underlying hu0, run_underlying hsay, Conv.intToInt]
   · rename_i b hx
     refine .inl ⟨_, hk, fun w hs => Qe (s := convert s d (ρ x)) (by simp only [execOp, ho]) ?_⟩
     simp [convert, hx, run_underlying hu0, run_underlying hsay]
   · exact .inr hk
 · rename_i t x ho
   obtain ⟨y, n, hk, hrow⟩ := hT.row (hf x _ h)
   have hsay := qG hrow
   split at hk
   · rename_i len e n' g a m m' hx
     have := hk.h
     exact .inl ⟨_, hk.go, fun w hs => Qe (s := Instr.arrayAt t (ρ x)) (by simp only [execOp, ho]) (by simp [hx, Instr.arrayAt, run_underlying hsay.1, show ¬ m < len by omega])⟩
   · exact hk.elim
 · rename_i t x ho
   obtain ⟨y, n, hk, hrow⟩ := hT.row (hf x _ h)
   have hsay := qG hrow
   have hd : ∃ d, C.P.underlying t = some d ∧ ∀ m, y ≠ .ifc → d ≠ .interface m := by
    cases y <;> simp only [Says] at hsay
    case ptr => obtain ⟨_, h⟩ := hsay; exact ⟨_, h, by simp⟩
    case ifc => obtain ⟨_, h⟩ := hsay; exact ⟨_, h, by simp⟩
    case fn => obtain ⟨_, _, _, h⟩ := hsay; exact ⟨_, h, by simp⟩
    case st => obtain ⟨_, h, _⟩ := hsay; exact ⟨_, h, by simp⟩
    case sl => exact ⟨_, hsay.1, by simp⟩
    case arr => exact ⟨_, hsay.1, by simp⟩
    all_goals exact ⟨_, hsay, by simp⟩
   obtain ⟨d, hd, hne⟩ := hd
   split at hk
   · exact hk.elim
   · rename_i hy
     refine .inl ⟨_, hk, fun w hs => Qe (s := Instr.makeInterface t (ρ x)) (by simp only [execOp, ho]) ?_⟩
     cases d <;> first | (exact absurd rfl (hne _ hy)) | simp [Instr.makeInterface, run_underlying hd]
 · rename_i fn fs cs ho
   have h1 := hf.evs _ _ (hf.evs _ _ h)
   have e1 : fs.map ρ = (fs.toList.map ρ).toArray := by apply Array.ext'; simp
   have e2 : cs.map ρ = (cs.toList.map ρ).toArray := by apply Array.ext'; simp
   exact .inl ⟨_, h1, fun w _ => Qe (s := Instr.makeFunc fn (fs.map ρ) (cs.map ρ)) (by simp only [execOp, ho]) (by rw [e1, e2]; rfl)⟩
 · rename_i t x lo hi m ho
   obtain ⟨lo', hi', m', hk, hm, hB⟩ := bounds_ok (P := C.P) hf (hf x _ h)
   obtain ⟨y, n, ⟨hk⟩, hrow⟩ := hT.row hk
   have hsay := qG hrow
   unfold sliM at hk
   split at hk
   · rename_i len e n' g b o hx
     obtain ⟨l, h, m1, e1, e2, e3, e4, e5, e6, e7, go⟩ := hk
     refine .inl ⟨_, go.ok, fun w hs => Qe (s := Instr.sliceAt t (ρ x) (lo.map ρ) (hi.map ρ) (m.map ρ)) (by simp only [execOp, ho]) ?_⟩
     simp [Instr.sliceAt, run_underlying hsay.1, hx, Instr.sureAddr, hB false _ _ _ _ _ e1 e2 e3 e4 e5 e6 e7, Qi hsay.2.1, Qp, qi, qh]
   · rename_i e n' b o len cap hx
     obtain ⟨l, h, m1, e1, e2, e3, e4, e5, e6, e7, go⟩ := hk
     refine .inl ⟨_, go.ok, fun w hs => Qe (s := Instr.sliceAt t (ρ x) (lo.map ρ) (hi.map ρ) (m.map ρ)) (by simp only [execOp, ho]) ?_⟩
     simp [Instr.sliceAt, Instr.slice, run_underlying hsay.1, hx, hB true _ _ _ _ _ e1 e2 e3 e4 e5 e6 e7, Qi hsay.2, Qp, qi, qh]
     split <;> rfl
   · rename_i e n' len cap hx
     obtain ⟨l, h, m1, e1, e2, e3, e4, e5, e6, e7, go⟩ := hk
     refine .inl ⟨_, go, fun w hs => Qe (s := Instr.sliceAt t (ρ x) (lo.map ρ) (hi.map ρ) (m.map ρ)) (by simp only [execOp, ho]) ?_⟩
     simp [Instr.sliceAt, Instr.slice, run_underlying hsay.1, hx, hB true _ _ _ _ _ e1 e2 e3 e4 e5 e6 e7, Qi hsay.2]
   · rename_i s hx
     split at hk
     · obtain ⟨l, h', m1, e1, e2, e3, e4, e5, e6, e7, go⟩ := hk
       obtain rfl : m = none := hm.2 rfl
       refine .inl ⟨_, go, fun w hs => Qe (s := Instr.sliceAt t (ρ x) (lo.map ρ) (hi.map ρ) none) (by simp only [execOp, ho]; rfl) ?_⟩
       have := hB false s.size s.size l h' m1 e1 e2 e3 e4 e5 e6 e7
       simp only [Option.map_none] at this
       simp [Instr.sliceAt, Instr.slice, run_underlying hsay, hx, this]
     · exact .inr hk
   · exact .inr hk
 · rename_i t x f ho
   obtain ⟨y, n, hk, hrow⟩ := hT.row (hf x _ h)
   have hsay := qG hrow
   split at hk
   · rename_i fs b o hx
     obtain ⟨p, hp, hn⟩ := ZR _ _ _ hk
     obtain ⟨fields, hu, hall⟩ := hsay
     obtain ⟨fl, hfl, hoff, hsz, hne, _, _⟩ := hall f p hp
     refine .inl ⟨_, hn, fun w hs => Qe (s := Instr.fieldAt t (ρ x) f) (by simp only [execOp, ho]) ?_⟩
     simp [hx, Instr.fieldAt, run_underlying hu, hfl, Instr.sureAddr, fieldPlace, Qi hsz, hne, hoff, Qp, qi]
   · exact hk.elim
 · rename_i t x f ho
   obtain ⟨y, n, hk, hrow⟩ := hT.row (hf x _ h)
   have hsay := qG hrow
   split at hk
   · rename_i fs c hx
     obtain ⟨p, hp, hn⟩ := ZR _ _ _ hk
     obtain ⟨fields, hu, hall⟩ := hsay
     obtain ⟨fl, hfl, hoff, hsz, hne, hg, hsm⟩ := hall f p hp
     obtain ⟨v, hv, hrun⟩ := hn.ok hsz hg hsm
     refine .inl ⟨_, hv, fun w hs => Qe (s := Instr.field t (ρ x) f) (by simp only [execOp, ho]) ?_⟩
     simp [hx, Instr.field, run_underlying hu, hfl, asAgg, hoff, hrun]
   · exact hk.elim
 · rename_i t x i ho
   obtain ⟨y, n, hk, hrow⟩ := hT.row (hf i _ (hf x _ h))
   have hsay := qG hrow
   split at hk
   · rename_i len e n' g b o k j hx hi
     have h1 := hk.lo; have h2 := hk.hi
     refine .inl ⟨_, hk.go, fun w hs => Qe (s := Instr.indexAt t (ρ x) (ρ i)) (by simp only [execOp, ho]) ?_⟩
     simp [hx, hi, Instr.indexAt, asIntOf, run_underlying hsay.1, Instr.sureAddr, h1, h2, Qi hsay.2.1, Qp, qi, qh]
   · rename_i e n' b o len cap k j hx hi
     have h1 := hk.lo; have h2 := hk.hi
     refine .inl ⟨_, hk.go, fun w hs => Qe (s := Instr.indexAt t (ρ x) (ρ i)) (by simp only [execOp, ho]) ?_⟩
     simp [hx, hi, Instr.indexAt, asIntOf, run_underlying hsay.1, h1, h2, Qi hsay.2, Qp, qi, qh]
   · exact hk.elim
 · rename_i t x i ho
   obtain ⟨y, n, hk, hrow⟩ := hT.row (hf i _ (hf x _ h))
   have hsay := qG hrow
   split at hk
   · rename_i len e n' g c k j hx hi
     have h1 := hk.lo; have h2 := hk.hi
     obtain ⟨v, hv, hrun⟩ := hk.go.ok hsay.2.1 hsay.2.2.1 hsay.2.2.2
     refine .inl ⟨_, hv, fun w hs => Qe (s := Instr.index t (ρ x) (ρ i)) (by simp only [execOp, ho]) ?_⟩
     simp [hx, hi, Instr.index, asIntOf, run_underlying hsay.1, h1, h2, Qi hsay.2.1, ← qh, hrun]
   · rename_i s k j hx hi
     have h1 := hk.lo; have h2 := hk.hi
     refine .inl ⟨_, hk.go, fun w hs => Qe (s := Instr.index t (ρ x) (ρ i)) (by simp only [execOp, ho]) ?_⟩
     simp [hx, hi, Instr.index, asIntOf, run_underlying hsay, h1, h2]
   · exact hk.elim
 · rename_i x i ho
   have h1 := hf x _ h
   unfold exV at h1
   split at h1
   · rename_i vs hx
     obtain ⟨v, hv, hn⟩ := lookup_arr h1
     exact .inl ⟨_, hn, fun w hs => Qe (s := Instr.extract (ρ x) i) (by simp only [execOp, ho]) (by simp [hx, Instr.extract, hv])⟩
   · exact h1.elim
 · rename_i c ho
   split at h
   · rename_i hc
     split at h
     · rename_i x t hx ht
       obtain ⟨y, n, hk, hrow⟩ := hT.row (hf x _ h)
       have hsay := qG hrow
       have ea : c.args.map ρ = #[ρ x] := by apply Array.ext'; simp [hx]
       have et : c.argTypes = #[t] := by apply Array.ext'; simp [ht]
       have hex : ∀ v w, (Builtin.len_ #[t] o.type #[ρ x]).run C.P w = .ok v w → (execOp ρ o).run C.P w = .ok (.value v) w := fun v w hv => by
        unfold execOp
        simp only [ho, resolve, hc, ea, et]
        simp [invoke, builtin, hv]
       split at hk
       · rename_i s hv; exact .inl ⟨_, hk, fun w hs => hex _ w (by simp [Builtin.len_, hv, run_underlying hsay, goInt])⟩
       · rename_i e n' a m q hv; exact .inl ⟨_, hk, fun w hs => hex _ w (by simp [Builtin.len_, hv, run_underlying hsay.1, goInt])⟩
       · rename_i len e n' g hv; exact .inl ⟨_, hk, fun w hs => hex _ w (by simp [Builtin.len_, run_underlying hsay.1, goInt])⟩
       · rename_i k e hv; exact .inl ⟨_, hk, fun w hs => hex _ w (by simp [Builtin.len_, hv, run_underlying hsay, goInt])⟩
       · exact .inr hk
     · exact .inr h
   · rename_i hc
     split at h
     · rename_i x t hx ht
       obtain ⟨y, n, hk, hrow⟩ := hT.row (hf x _ h)
       have hsay := qG hrow
       have ea : c.args.map ρ = #[ρ x] := by apply Array.ext'; simp [hx]
       have et : c.argTypes = #[t] := by apply Array.ext'; simp [ht]
       have hex : ∀ v w, (Builtin.cap_ #[t] o.type #[ρ x]).run C.P w = .ok v w → (execOp ρ o).run C.P w = .ok (.value v) w := fun v w hv => by
        unfold execOp
        simp only [ho, resolve, hc, ea, et]
        simp [invoke, builtin, hv]
       split at hk
       · rename_i e n' a m q hv; exact .inl ⟨_, hk, fun w hs => hex _ w (by simp [Builtin.cap_, hv, run_underlying hsay.1, goInt])⟩
       · exact .inr hk
     · exact .inr h
   · exact .inr h
 · exact .inr h
theorem OpS.sem {m : Sem Value} (h : ZV C m L next) (he : execOp ρ o = (do pure (.value (← m)))) (hs : St C.M C.B w L) : OpS C o ρ w next := by
 obtain ⟨v, w', L', hr, hs', hn⟩ := h.go w hs
 exact OpS.val he hr hs' hn
theorem OpS.semu {m : Sem Unit} (h : SemU C m L fun L' => next undef L') (he : execOp ρ o = (do m; pure .skip)) (hs : St C.M C.B w L) : OpS C o ρ w next := by
 obtain ⟨w', L', hr, hs', hn⟩ := h.go w hs
 unfold OpS
 rw [he, Sem.run_bind, hr]
 exact ⟨L', hs', hn⟩
theorem ox_ok (hT : TabOk C.P C.T) (hf : Fit σ ρ) (hs : St C.M C.B w L) (h : ox C o σ L next) : OpS C o ρ w next := by
 unfold ox at h
 split at h
 · rename_i t ho
   obtain ⟨c, hc, hk⟩ := zof_ok _ hT.zero _ _ h
   obtain ⟨v, hv, rfl⟩ := run_zero hc w
   exact OpS.val (s := Instr.alloc t true (.tuple #[])) (by simp only [execOp, ho]) (by simp [Instr.alloc, hv, qdv]) (hs.alloc _) (hk _)
 · rename_i t x ho
   exact OpS.val (s := Instr.box t (ρ x)) (by simp only [execOp, ho]) (by simp [Instr.box, qdv]) (hs.alloc _) (hf x _ h _)
 · rename_i t n ps ho
   obtain ⟨c, e, hv, go⟩ := qeO hf h
   refine OpS.val (s := Instr.buildSlice t n (ps.map fun (i, x) => (i, ρ x))) (by simp only [execOp, ho]) ?_ (hs.alloc _) (go _)
   have e : (ps.map fun (i, x) => (i, ρ x)) = (ps.toList.map fun p => (p.1, ρ p.2)).toArray := by apply Array.ext'; simp
   rw [e]; exact hv w
 · rename_i t x y ho
   have h1 := hf y _ (hf x _ h)
   unfold stoV at h1
   split at h1
   · rename_i b o hx
     obtain ⟨L', hst, go⟩ := h1
     obtain ⟨w', hr, hs'⟩ := hst w hs
     unfold OpS
     rw [show (execOp ρ _).run C.P w = .ok .skip w' by simp only [execOp, ho]; simp [Instr.storeAt, hx, Instr.sureAddr, hr]]
     exact ⟨L', hs', go⟩
   · exact h1.elim
 · rename_i t x y ho
   obtain ⟨l, m, c, e, hv, go⟩ := hf y _ (hf x _ h)
   exact OpS.val (s := Instr.makeSlice t (ρ x) (ρ y)) (by simp only [execOp, ho]) (hv w) (hs.alloc _) (go _)
 · rename_i op t x y z ho
   have h1 := hf y _ (hf x _ h)
   rcases binV_ok hT h1 with ⟨r, hr, hrun⟩ | hfb
   · exact OpS.val (s := do eqGuard op t x y (ρ x) (ρ y); binOp op t (ρ x) (ρ y)) (by simp only [execOp, ho]) (hrun w) hs hr
   · obtain ⟨v, w', L', hr, hs', hn⟩ := hfb.go w hs
     exact OpS.val (s := do eqGuard op t x y (ρ x) (ρ y); binOp op t (ρ x) (ρ y)) (by simp only [execOp, ho]) hr hs' hn
 · rename_i s d x ho
   obtain ⟨y0, n0, hk0, hrow0⟩ := hT.row (hf x _ h)
   obtain ⟨y, n, hk, hrow⟩ := hT.row hk0
   have hsay := qG hrow
   have hs0 := (qG hrow0).agg.2
   cases hu0 : C.P.underlying s with
   | none => rw [hu0] at hs0; cases hs0
   | some d0 =>
   split at hk
   · obtain ⟨v, w', L', hr, hs', hn⟩ := hk.go w hs
     exact OpS.val (s := convert s d (ρ x)) (by simp only [execOp, ho]) hr hs' hn
   split at hk
   · rename_i k q m hx
     refine OpS.val (s := convert s d (ρ x)) (by simp only [execOp, ho]) ?_ hs hk.ok
     simp [convert, hx, run_underlying hu0, run_underlying hsay, Conv.intToInt]
   · rename_i b hx
     refine OpS.val (s := convert s d (ρ x)) (by simp only [execOp, ho]) ?_ hs hk
     simp [convert, hx, run_underlying hu0, run_underlying hsay]
   · obtain ⟨v, w', L', hr, hs', hn⟩ := hk.go w hs
     exact OpS.val (s := convert s d (ρ x)) (by simp only [execOp, ho]) hr hs' hn
 · rename_i t x i ok ho; exact OpS.sem (hf i _ (hf x _ h)) (by simp only [execOp, ho]) hs
 · rename_i t m k x ho; exact OpS.semu (hf x _ (hf k _ (hf m _ h))) (by simp only [execOp, ho]) hs
 · rename_i t m k x ho; exact OpS.semu (hf x _ (hf k _ (hf m _ h))) (by simp only [execOp, ho]) hs
 · rename_i t ho; exact OpS.sem h (by simp only [execOp, ho, Option.map_none]) hs
 · rename_i t m k ho; exact OpS.sem (hf k _ (hf m _ h)) (by simp only [execOp, ho]) hs
 · rename_i t m k x ho; exact OpS.semu (hf x _ (hf k _ (hf m _ h))) (by simp only [execOp, ho]) hs
 · rename_i t x ho; exact OpS.sem (hf x _ h) (by simp only [execOp, ho]) hs
 · rename_i x s ho; exact OpS.sem (hf x _ h) (by simp only [execOp, ho]) hs
 · rename_i x ho; exact OpS.sem (hf x _ h) (by simp only [execOp, ho]) hs
 · rename_i x t u ok ho; exact OpS.sem (hf x _ h) (by simp only [execOp, ho]) hs
 · rename_i c ho
   split at h
   · rename_i f hc
     have h1 := hf.evs _ _ (hf f _ h)
     unfold callV at h1
     split at h1
     · rename_i g fs cs hx
       cases hcl : QM C.T g
       · rw [hcl] at h1; exact h1.go ρ w hf hs
       · rw [hcl] at h1
         have hcall := h1.go w hs
         obtain ⟨fn, k1, k2, k3⟩ := Zh (zl hT hcl)
         have k4 : fn.name ≠ "runtime.NumGoroutine" := by simpa using k2
         have e1 : (fs.toList ++ (c.args.toList.map ρ ++ cs.toList)).toArray = fs ++ c.args.map ρ ++ cs := by apply Array.ext'; simp
         rw [e1] at hcall
         unfold OpS
         have e2 : (execOp ρ o).run C.P w = .ok (.enter g (fs ++ c.args.map ρ ++ cs)) w := by
          unfold execOp
          simp only [ho, resolve, hc, hx]
          cases hb : fn.body with
          | none => rw [hb] at k3; cases k3
          | some code => simp [Deferred.ofValue, invoke, callFunc, k1, k4, hb]
         rw [e2]; exact hcall
     · rename_i l fs cs hx
       have hy := h1.go w hs
       obtain ⟨fn, tm, «as», bd, hrun, _⟩ := hy 0
       have e1 : (fs.toList ++ c.args.toList.map ρ).toArray = fs ++ c.args.map ρ := by apply Array.ext'; simp
       rw [e1] at hrun
       unfold OpS
       have e2 : (execOp ρ o).run C.P w = .ok (.round l fn tm «as» bd) w := by
        unfold execOp
        simp only [ho, resolve, hc, hx]
        simp [Deferred.ofValue, invoke, hrun]
       rw [e2]
       intro m
       obtain ⟨fn', tm', as', bd', hrun', hR⟩ := hy m
       rw [e1, hrun] at hrun'
       injection hrun' with h1 _
       injection h1 with _ h2 h3 h4 h5
       subst h2 h3 h4 h5
       exact hR
     · exact h1.go ρ w hf hs
   · rcases tx_ok hT hf h with ⟨v, hv, hr⟩ | hfb
     · exact .now (hr w hs) hs hv
     · exact hfb.go ρ w hf hs
   · rcases tx_ok hT hf h with ⟨v, hv, hr⟩ | hfb
     · exact .now (hr w hs) hs hv
     · exact hfb.go ρ w hf hs
   · rename_i b _ _ hc
     have h1 := (hf.evs _ _ h).go w hs
     have e1 : (c.args.toList.map ρ).toArray = c.args.map ρ := by apply Array.ext'; simp
     rw [e1] at h1
     unfold OpS
     have e2 : execOp ρ o = builtin b c.argTypes o.type (consts c) (c.args.map ρ) := by
      unfold execOp
      simp only [ho, resolve, hc]
      rfl
     rw [e2]; exact h1
   · exact h.go ρ w hf hs
 · rcases tx_ok hT hf h with ⟨v, hv, hr⟩ | hfb
   · exact .now (hr w hs) hs hv
   · exact hfb.go ρ w hf hs
end
section
open Go Go.RowKit
structure Sy where
 σ : Fr
 L : List Ent
 D : List Deferred
structure Fits (N : Nat) (s : Sy) (a : Act) : Prop where
 size : a.tmps.size = N
 defers : a.defers = s.D
 slot : ∀ i v, get s.σ i = some v → a.tmps.getD i undef = v
theorem Fits.fit {N : Nat} {s : Sy} {a : Act} (h : Fits N s a) : Fit s.σ a.eval := by
 intro x k hk
 cases x with
 | tmp t => obtain ⟨v, hv, hkv⟩ := ZC _ _ _ hk; have := h.slot t v hv; simp only [Act.eval]; rw [this]; exact hkv
 | const v => exact hk
 | global g => exact hk
 | func f => exact hk
theorem Fits.defer {N : Nat} {s : Sy} {a : Act} (h : Fits N s a) (d : Deferred) : Fits N ⟨s.σ, s.L, d :: s.D⟩ { a with defers := d :: a.defers } := ⟨h.size, by rw [h.defers], h.slot⟩
def put (N : Nat) (d : Option Nat) (v : Value) (σ : Fr) : Fr := match d with
 | some d => cond (Nat.blt d N) ((d, v) :: σ) σ
 | none => σ
theorem Fits.put {N : Nat} {s : Sy} {a : Act} (h : Fits N s a) (d : Option Nat) (v : Value) (L : List Ent) : Fits N ⟨put N d v s.σ, L, s.D⟩ (a.put d v) := by
 cases d with
 | none => exact ⟨h.size, h.defers, h.slot⟩
 | some d =>
  refine ⟨by simp [Act.put, h.size], h.defers, ?_⟩
  intro i u hu
  unfold Sx.put at hu
  by_cases hd : d < N
  · have hb : Nat.blt d N = true := by simpa using hd
    simp only [hb, cond_true, get] at hu
    by_cases hdi : d = i
    · subst hdi
      simp at hu
      subst hu
      simp [Act.put, h.size, hd]
    · have : Nat.beq d i = false := Bool.eq_false_iff.2 fun e => hdi (Nat.eq_of_beq_eq_true e)
      rw [this] at hu
      have := h.slot i u hu
      simp only [Act.put, Array.getD_eq_getD_getElem?] at this ⊢
      rw [Array.getElem?_setIfInBounds_ne hdi]; exact this
  · have hb : Nat.blt d N = false := Bool.eq_false_iff.2 fun e => hd (by simpa using e)
    simp only [hb, cond_false] at hu
    have := h.slot i u hu
    simp only [Act.put, Array.getD_eq_getD_getElem?] at this ⊢
    by_cases hdi : d = i
    · subst hdi
      rw [Array.getElem?_eq_none (by simp [h.size]; omega)]
      rw [Array.getElem?_eq_none (by rw [h.size]; omega)] at this
      exact this
    · rw [Array.getElem?_setIfInBounds_ne hdi]; exact this
def dstOf (ops : Array Oper) (j : Nat) (k : Nat → Prop) : Prop := match (ops[j]?).bind (·.dst) with
 | some d => k d
 | none => False
def guardV (v : Value) (want : Bool) (p q : Prop) : Prop := match v with
 | .bool b => qcZ (b == want) p q
 | .tuple _ => q
 | _ => False
def qep (N : Nat) (d : Option Nat) (v : Value) (σ : Fr) (k : Fr → Prop) : Prop := match d with
 | some d => cond (Nat.blt d N) (k ((d, v) :: σ)) (k σ)
 | none => k σ
theorem qbI (N : Nat) (d : Option Nat) (v : Value) (σ : Fr) (k : Fr → Prop) : qep N d v σ k = k (put N d v σ) := by
 cases d with
 | none => rfl
 | some d => simp only [qep, put]; cases h : Nat.blt d N <;> simp
def isDf (o : Oper) : Bool := match o.op with
 | .defer _ => true
 | _ => false
def dfV (C : Cx) (o : Oper) (σ : Fr) (k : Deferred → Prop) : Prop := match C.F with
 | some _ => False
 | none => match o.op with
  | .defer c => match c.callee with
   | .value f => ev σ f fun g => evs σ c.args.toList fun vs => match g with
    | .func fn fs cs => k ⟨.fn fn cs, fs ++ vs.toArray⟩
    | _ => False
   | _ => False
  | _ => False
def sxOp (C : Cx) (ops : Array Oper) (o : Oper) (k : Sy → Prop) : Sy → Prop
 | ⟨σ, L, D⟩ => match o.guard with
  | none => cond (isDf o) (dfV C o σ fun d => qep C.N o.dst undef σ fun σ' => k ⟨σ', L, d :: D⟩) (ox C o σ L fun v L' => qep C.N o.dst v σ fun σ' => k ⟨σ', L', D⟩)
  | some (j, want) => dstOf ops j fun d => find σ d fun u => guardV u want (ox C o σ L fun v L' => qep C.N o.dst v σ fun σ' => k ⟨σ', L', D⟩) (qep C.N o.dst undef σ fun σ' => k ⟨σ', L, D⟩)
def sx (C : Cx) (ops : Array Oper) (l : List Oper) (K : Sy → Prop) : Sy → Prop := List.rec (motive := fun _ => Sy → Prop) K (fun o _ ih => sxOp C ops o ih) l
def Q9 (C : Cx) (K : Sy → Prop) (a : Act) (w : World) : Prop := ∃ s, Fits C.N s a ∧ St C.M C.B w s.L ∧ K s
theorem qcN {o : Oper} (h : o.guard = none) (y : Nat → Option Bool) : Region.wanted o y = true := by simp [Region.wanted, h]
theorem not_defer {C : Cx} {o : Oper} {ρ : Operand → Value} {w : World} {n : Value → List Ent → Prop} (h : OpS C o ρ w n) : ∀ c, o.op ≠ .defer c := by
 intro c hc
 unfold OpS execOp at h
 rw [hc] at h
 simp only [Sem.run_bind] at h
 cases hr : (resolve ρ c o.type).run C.P w with
 | ok d w' => rw [hr] at h; exact h
 | halt x w' => rw [hr] at h; exact h
theorem op_in {C : Cx} {o : Oper} {a : Act} {w : World} {n : Value → List Ent → Prop} {K : Act → World → Prop} {Q : Exit → Act → World → Prop} {m : Nat} (h : OpS C o a.eval w n)
 (hn : ∀ v L' w', St C.M C.B w' L' → n v L' → K (a.put o.dst v) w') : o.wpIn C.fence m C.P a w K Q := by
 have hd := not_defer h
 have key : ∀ F : Fence, (F = Fence.wide ∨ ∃ l, F = Fence.wide.inRound l) → o.wpIn F m C.P a w K Q := by
  intro F hF
  have h1 : ∀ f, F.fn f := by rcases hF with rfl | ⟨l, rfl⟩ <;> exact fun _ => trivial
  have h2 : F.depth.isSome = true → 1 ≤ m := by rcases hF with rfl | ⟨l, rfl⟩ <;> exact fun e => by cases e
  refine ⟨fun f _ => h1 f, ?_⟩
  rw [Oper.semAt_eq _ _ _ hd]
  unfold OpS at h
  generalize (execOp a.eval o).run C.P w = r at h
  unfold Fin at h
  split at h
  · obtain ⟨L', h3, h4⟩ := h; exact hn _ _ _ h3 h4
  · obtain ⟨L', h3, h4⟩ := h; exact hn _ _ _ h3 h4
  · have h5 : ∀ (g : FuncId) (args : Array Value) (w' : World), (Calls C.P g args w' fun e w'' => ∃ v L', e = .returned v ∧ St C.M C.B w'' L' ∧ n v L') → CallsIn F (m - 1) C.P g args w' fun
     | .returned v, w'' => K (a.put o.dst v) w''
     | .panicked chain, w'' => Q (.panic chain) a w''
     | .outgrown, _ => LetsOut Q := by
     intro g args w' hc
     have hc' : CallsIn Fence.wide (m - 1) C.P g args w' fun
      | .returned v, w'' => K (a.put o.dst v) w''
      | .panicked chain, w'' => Q (.panic chain) a w''
      | .outgrown, _ => LetsOut Q := callsIn_wide.2 (hc.mono fun e w'' he => by obtain ⟨v, L', rfl, h6, h7⟩ := he; exact hn _ _ _ h6 h7)
     rcases hF with rfl | ⟨l, rfl⟩
     · exact hc'
     · exact CallsIn.inRound l hc'
    exact ⟨h2, h5 _ _ _ h⟩
  · refine ⟨h2, fun c cs _ => ?_⟩
    obtain ⟨v, w2, ⟨L', h6, h7⟩, hst⟩ := h c cs
    refine ⟨v, w2, hn _ _ _ h6 h7, ?_⟩
    rcases hF with rfl | ⟨l, rfl⟩
    · exact stepsIn_wide.2 hst
    · exact stepsIn_wide.2 hst
  · refine ⟨h2, ?_⟩
    have h5 := (h (m - 1)).mono (R' := fun
     | .returned v, w'' => K (a.put o.dst v) w''
     | .panicked chain, w'' => Q (.panic chain) a w''
     | .outgrown, _ => LetsOut Q) (fun e w'' he => by obtain ⟨v, L', rfl, h6, h7⟩ := he; exact hn _ _ _ h6 h7)
    rcases hF with rfl | ⟨l, rfl⟩
    · exact h5
    · exact h5
  · exact h.elim
 unfold Cx.fence
 cases C.F with
 | none => exact key _ (.inl rfl)
 | some l => exact key _ (.inr ⟨l, rfl⟩)
theorem df_in {C : Cx} {o : Oper} {σ : Fr} {a : Act} {w : World} {k : Deferred → Prop} {K : Act → World → Prop} {Q : Exit → Act → World → Prop} {m : Nat} (hf : Fit σ a.eval) (h : dfV C o σ k)
 (hn : ∀ d, k d → K ({ a with defers := d :: a.defers }.put o.dst undef) w) : o.wpIn C.fence m C.P a w K Q := by
 unfold dfV at h
 split at h
 · exact h.elim
 · rename_i hF
   split at h
   · rename_i c ho
     split at h
     · rename_i f hc
       have h1 := hf.evs _ _ (hf f _ h)
       split at h1
       · rename_i fn fs cs hg
         have hfe : C.fence = Fence.wide := by unfold Cx.fence; rw [hF]
         rw [hfe]
         refine ⟨fun _ _ => trivial, ?_⟩
         have e1 : (c.args.toList.map a.eval).toArray = c.args.map a.eval := by apply Array.ext'; simp
         have e2 : (Oper.semAt Fence.wide.round a.eval o).run C.P w = .ok (.defer ⟨.fn fn cs, fs ++ c.args.map a.eval⟩) w := by
          show (execOp a.eval o).run C.P w = _
          unfold execOp
          simp [ho, resolve, hc, hg, Deferred.ofValue]
         rw [e2]
         rw [e1] at h1
         exact hn _ h1
       · exact h1.elim
     · exact h.elim
   · exact h.elim
def asB : Value → Option Bool
 | .bool b => some b
 | _ => none
theorem qbg {a : Act} {ops : Array Oper} {j d : Nat} (hd : (ops[j]?).bind (·.dst) = some d) {u : Value} (hu : a.tmps.getD d undef = u) :
 yielded ops a.tmps j = asB u := by
 unfold yielded
 rw [hd]
 simp only [Option.bind_some]
 cases hg : a.tmps[d]? with
 | none => simp [Array.getD_eq_getD_getElem?, hg] at hu; subst hu; rfl
 | some x => simp [Array.getD_eq_getD_getElem?, hg] at hu; subst hu; cases x <;> rfl
theorem sx_ok {C : Cx} (hT : TabOk C.P C.T) {ops : Array Oper} {Q : Exit → Act → World → Prop} {K : Sy → Prop} (hQ : ∀ a w, Q9 C K a w → Q .normal a w) {m : Nat} :
 ∀ (l : List Oper) (s : Sy) (a : Act) (w : World), sx C ops l K s → Fits C.N s a → St C.M C.B w s.L → wpListIn C.fence m C.P ops Q l a w := by
 intro l
 induction l with
 | nil => intro s a w h hf hs; exact hQ a w ⟨s, hf, hs, h⟩
 | cons o rest ih =>
  rintro ⟨σ, L, D⟩ a w h hf hs
  let s : Sy := ⟨σ, L, D⟩
  have run : ox C o s.σ s.L (fun v L' => sx C ops rest K ⟨put C.N o.dst v s.σ, L', s.D⟩) → o.wpIn C.fence m C.P a w (wpListIn C.fence m C.P ops Q rest) Q :=
   fun hox => op_in (ox_ok hT hf.fit hs hox) fun v L' w' h1 h2 => ih _ _ _ h2 (hf.put _ _ _) h1
  have fnw : ∀ f, C.fence.fn f := by unfold Cx.fence; cases C.F <;> exact fun _ => trivial
  unfold wpListIn
  change sxOp C ops o (sx C ops rest K) ⟨σ, L, D⟩ at h
  unfold sxOp at h
  simp only [qbI] at h
  split at h
  · rename_i hg
    rw [if_pos (qcN hg _)]
    cases hdf : isDf o
    · rw [hdf] at h; exact run h
    · rw [hdf] at h
      have h' : dfV C o σ fun d => sx C ops rest K ⟨put C.N o.dst undef σ, L, d :: D⟩ := h
      exact df_in hf.fit h' fun d hk => ih _ _ _ hk ((hf.defer d).put _ _ _) hs
  · rename_i j want hg
    unfold dstOf at h
    split at h
    · rename_i d hd
      obtain ⟨u, hu, hk⟩ := ZC _ _ _ h
      have hy := qbg hd (hf.slot d u hu)
      unfold guardV at hk
      split at hk
      · rename_i b
        have hw : Region.wanted o (yielded ops a.tmps) = (b == want) := by simp [Region.wanted, hg, hy, asB]
        rw [hw]
        cases hb : (b == want)
        · exact ⟨fun f _ => fnw f, ih _ _ _ (hk.f hb) (hf.put _ _ _) hs⟩
        · exact run (hk.t hb)
      · have hw : Region.wanted o (yielded ops a.tmps) = false := by simp [Region.wanted, hg, hy, asB]
        rw [hw]
        exact ⟨fun f _ => fnw f, ih _ _ _ hk (hf.put _ _ _) hs⟩
      · exact hk.elim
    · exact h.elim
def Qof (C : Cx) (K : Exit → Sy → Prop) : Exit → Act → World → Prop := fun e a w => Q9 C (K e) a w
structure CodeP (C : Cx) (c : Code) (K : Exit → Sy → Prop) (s : Sy) : Prop where
 go : ∀ n a w, Fits C.N s a → St C.M C.B w s.L → c.wpIn C.fence n C.P (Qof C K) a w
structure LoopP (C : Cx) (c : Code) (K : Exit → Sy → Prop) (s : Sy) : Prop where
 go : ∀ n a w, Fits C.N s a → St C.M C.B w s.L → (Code.loop c).wpIn C.fence n C.P (Qof C K) a w
structure qb8 (C : Cx) (id : Nat) (ops : Array Oper) (K : Exit → Sy → Prop) (s : Sy) : Prop where
 go : ∀ n a w, Fits C.N s a → St C.M C.B w s.L → (Code.region id ops true).wpIn C.fence n C.P (Qof C K) a w
def condV (v : Value) (p q : Prop) : Prop := match v with
 | .bool b => qcZ b p q
 | _ => False
abbrev Kn := (Exit → Sy → Prop) → Sy → Prop
def xSkip : Kn := fun K s => K .normal s
def xRegion (C : Cx) (id : Nat) (ops : Array Oper) (d : Bool) : Kn := fun K s => match d with
 | false => sx C ops ops.toList (K .normal) s
 | true => qb8 C id ops K s
def seqK (b : Kn) (K : Exit → Sy → Prop) : Exit → Sy → Prop := fun e s' => match e with
 | .normal => b K s'
 | e => K e s'
def xSeq (a b : Kn) : Kn := fun K s => a (seqK b K) s
def xCond (c : Operand) (x y : Kn) : Kn := fun K s => ev s.σ c fun v => condV v (x K s) (y K s)
def blockK (id : Nat) (K : Exit → Sy → Prop) : Exit → Sy → Prop := fun e s' => match e with
 | .exit j => cond (Nat.beq j id) (K .normal s') (K (.exit j) s')
 | e => K e s'
def xBlock (id : Nat) (b : Kn) : Kn := fun K s => b (blockK id K) s
def xLoop (C : Cx) (b : Code) (_ : Kn) : Kn := fun K s => LoopP C b K s
def xRange (C : Cx) (f : Operand) (ps : Array Tmp) (x y : Code) (_ _ : Kn) : Kn := fun K s => CodeP C (.rangeFunc f ps x y) K s
def xExit (id : Nat) : Kn := fun K s => K (.exit id) s
def xScope (C : Cx) (b : Code) (_ : Kn) : Kn := fun K s => CodeP C (.scope b) K s
def xLabel (_ : Nat) : Kn := fun K s => K .normal s
def xGoto (l : Nat) : Kn := fun K s => K (.goto l) s
def xRet : Kn := fun K s => K .ret s
def xRefuse (C : Cx) (y : String) : Kn := fun K s => CodeP C (.refuse y) K s
def cx (C : Cx) (c : Code) : Kn :=
 Code.rec (motive := fun _ => Kn) xSkip (xRegion C) (fun _ _ => xSeq) (fun c _ _ => xCond c) (fun id _ => xBlock id) (xLoop C) (xRange C) xExit (xScope C) xLabel xGoto xRet (xRefuse C) c
theorem ZO {C : Cx} (hT : TabOk C.P C.T) : ∀ (c : Code) (K : Exit → Sy → Prop) (s : Sy), cx C c K s → CodeP C c K s := by
 intro c
 induction c with
 | skip => intro K s h; exact ⟨fun n a w hf hs => wpIn_skip ⟨s, hf, hs, h⟩⟩
 | region id ops d =>
  intro K s h
  cases d with
  | false => exact ⟨fun n a w hf hs => wpIn_region_list (sx_ok hT (fun a w h => h) _ s a w h hf hs)⟩
  | true => exact ⟨h.go⟩
 | seq x y ihx ihy =>
  intro K s h
  refine ⟨fun n a w hf hs => wpIn_seq (wpIn_mono ((ihx _ s h).go n a w hf hs) ?_)⟩
  rintro e a' w' ⟨s', hf', hs', hk⟩
  cases e with
  | normal => exact (ihy K s' hk).go n a' w' hf' hs'
  | _ => exact ⟨s', hf', hs', hk⟩
 | cond c x y ihx ihy =>
  intro K s h
  refine ⟨fun n a w hf hs => ?_⟩
  have h1 := hf.fit c _ h
  unfold condV at h1
  split at h1
  · rename_i b hb
    exact wpIn_cond_split hb (fun ht => (ihx K s (h1.t ht)).go n a w hf hs) (fun ht => (ihy K s (h1.f ht)).go n a w hf hs)
  · exact h1.elim
 | block id b ih =>
  intro K s h
  refine ⟨fun n a w hf hs => wpIn_block (wpIn_mono ((ih _ s h).go n a w hf hs) ?_)⟩
  rintro e a' w' ⟨s', hf', hs', hk⟩
  cases e with
  | exit j =>
   simp only [blockK] at hk
   by_cases hj : j = id
   · subst hj; simp only [Nat.beq_refl, cond_true] at hk; simp only [Exit.inBlock, if_true]; exact ⟨s', hf', hs', hk⟩
   · have : Nat.beq j id = false := Bool.eq_false_iff.2 fun e => hj (Nat.eq_of_beq_eq_true e)
     simp only [this, cond_false] at hk; simp only [Exit.inBlock, if_neg hj]; exact ⟨s', hf', hs', hk⟩
  | _ => exact ⟨s', hf', hs', hk⟩
 | loop b ih => intro K s h; exact ⟨h.go⟩
 | rangeFunc f ps x y _ _ => intro K s h; exact h
 | exit id => intro K s h; exact ⟨fun n a w hf hs => wpIn_exit ⟨s, hf, hs, h⟩⟩
 | scope b ih => intro K s h; exact h
 | label l => intro K s h; exact ⟨fun n a w hf hs => wpIn_label ⟨s, hf, hs, h⟩⟩
 | goto l => intro K s h; exact ⟨fun n a w hf hs => wpIn_goto ⟨s, hf, hs, h⟩⟩
 | ret => intro K s h; exact ⟨fun n a w hf hs => wpIn_ret ⟨s, hf, hs, h⟩⟩
 | refuse y => intro K s h; exact h
def leF : Fr → Fr → Prop
 | [], _ => True
 | p :: τ, σ => get σ p.1 = some p.2 ∧ leF τ σ
structure Le (s t : Sy) : Prop where
 f : leF s.σ t.σ
 l : Sub s.L t.L
 d : s.D = t.D
theorem leF_get {τ σ : Fr} (h : leF τ σ) : ∀ i v, get τ i = some v → get σ i = some v := by
 induction τ with
 | nil => intro i v hv; cases hv
 | cons p τ ih =>
  intro i v hv
  simp only [get] at hv
  cases hb : Nat.beq p.1 i
  · rw [hb] at hv; exact ih h.2 i v hv
  · rw [hb] at hv; obtain rfl := Option.some.inj hv; rw [← Nat.eq_of_beq_eq_true hb]; exact h.1
theorem Fits.le {N : Nat} {s t : Sy} {a : Act} (h : Fits N t a) (hle : Le s t) : Fits N s a := ⟨h.size, h.defers.trans hle.d.symm, fun i v hv => h.slot i v (leF_get hle.f i v hv)⟩
theorem loop_ghost {P : Program} {F : Fence} {n : Nat} {c : Code} {Q : Exit → Act → World → Prop} {α : Type} (I : α → Act → World → Prop) (μ : α → Nat)
 (round : ∀ x a w, I x a w → c.wpIn F n P (Exit.then (fun a' w' => ∃ y, I y a' w' ∧ μ y < μ x) Q) a w) (x0 : α) (a0 : Act) (w0 : World) (h0 : I x0 a0 w0) : (Code.loop c).wpIn F n P Q a0 w0 := by
 intro b k cs hro hb hr
 have key : ∀ (j : Nat) (x : α) (a : Act) (w : World), μ x = j → I x a w → ∃ e a' w', Q e a' w' ∧ ArrivesIn (Machine.fenced P F) P (lone (b.atR a (.code c :: .inLoop c :: k)) cs w) b k cs e a' w' := by
  intro j
  induction j using Nat.strongRecOn with
  | _ j ih =>
   intro x a w hx hI
   obtain ⟨e, a1, w1, hq, harr⟩ := round x a w hI b (.inLoop c :: k) cs hro hb hr
   have pass (e : Exit) (hne : e ≠ .normal) (hq : Q e a1 w1) (harr : ArrivesIn (Machine.fenced P F) P (lone (b.atR a (.code c :: .inLoop c :: k)) cs w) b (.inLoop c :: k) cs e a1 w1) :
    ∃ e a' w', Q e a' w' ∧ ArrivesIn (Machine.fenced P F) P (lone (b.atR a (.code c :: .inLoop c :: k)) cs w) b k cs e a' w' :=
    ⟨e, a1, w1, hq, .pass (x := .inLoop c) rfl (fun _ _ => .inl hne) harr⟩
   cases e with
   | normal =>
    obtain ⟨y, hI', hlt⟩ := hq
    obtain ⟨e2, a2, w2, hq2, harr2⟩ := ih (μ y) (hx ▸ hlt) y a1 w1 rfl hI'
    exact ⟨e2, a2, w2, hq2, .of_steps (StepsIn.trans harr (.one (fenced_calm hb hr rfl) stepR_inLoop)) harr2⟩
   | exit i => exact pass _ (by simp) hq harr
   | goto l => exact pass _ (by simp) hq harr
   | ret => exact pass _ (by simp) hq harr
   | panic ch => exact pass _ (by simp) hq harr
   | outgrown => exact pass _ (by simp) hq harr
 obtain ⟨e, a', w', hq, harr⟩ := key _ x0 a0 w0 rfl h0
 exact ⟨e, a', w', hq, .of_steps (.one (fenced_calm hb hr rfl) stepR_loop) harr⟩
theorem lp {C : Cx} (hT : TabOk C.P C.T) {body : Code} {K : Exit → Sy → Prop} {s : Sy} {α : Type} (J : α → Prop) (f : α → Sy) (μ : α → Nat) (x0 : α) (h0 : J x0) (hle : Le (f x0) s)
 (step : ∀ x, J x → cx C body (fun e s' => match e with | .normal => ∃ y, J y ∧ μ y < μ x ∧ Le (f y) s' | e => K e s') (f x)) : LoopP C body K s := by
 refine ⟨fun n a w hf hs => ?_⟩
 refine loop_ghost (fun x a w => J x ∧ Fits C.N (f x) a ∧ St C.M C.B w (f x).L) μ ?_ x0 a w ⟨h0, hf.le hle, hs.sub hle.l⟩
 rintro x a w ⟨hJ, hf, hs⟩
 refine wpIn_mono ((ZO hT body _ _ (step x hJ)).go n a w hf hs) ?_
 rintro e a' w' ⟨s', hf', hs', hk⟩
 cases e with
 | normal =>
  obtain ⟨y, hy, hlt, hle⟩ := hk
  exact ⟨y, ⟨hy, hf'.le hle, hs'.sub hle.l⟩, hlt⟩
 | _ => exact ⟨s', hf', hs', hk⟩
def rsV (C : Cx) (s : Sy) : List ResultVar → (List Value → Prop) → Prop
 | [], k => k []
 | .tmp t :: l, k => find s.σ t fun v => rsV C s l fun vs => k (v :: vs)
 | .cell t ty :: l, k => find s.σ t fun u => ldV C ty u s.L fun v => rsV C s l fun vs => k (v :: vs)
def oneOf : List Value → Value
 | [v] => v
 | l => .tuple l.toArray
structure RetP (C : Cx) (R : Value → World → Prop) (v : Value) (L : List Ent) : Prop where
 go : ∀ w, St C.M C.B w L → R v w
inductive MkP (b : Nat) (L : List Ent) (next : List Ent → Prop) : Prop
 | mk (i : Nat) (h : L[i]? = some ⟨b, some (.deferred (some [])), false, none⟩) (go : next (L.set i ⟨b, some (.deferred none), false, none⟩))
structure DefP (C : Cx) (g : FuncId) (args : List Value) (L : List Ent) (next : List Ent → Prop) : Prop where
 hc : ∀ w, (callFunc g args.toArray).run C.P w = .ok (.enter g args.toArray) w
 go : ∀ w, St C.M C.B w L → ∀ n, CallsDIn Fence.wide n C.P g args.toArray .returning w fun e u w' => u = .returning ∧ ∃ v L', e = .returned v ∧ St C.M C.B w' L' ∧ next L'
def mkV (C : Cx) : List Deferred → List Ent → (List Ent → Prop) → Prop
 | [], L, k => k L
 | d :: D, L, k => match d.target with
  | .collected b => MkP b L fun L' => mkV C D L' k
  | .fn (.func g) cs => DefP C g (d.args.toList ++ cs.toList) L fun L' => mkV C D L' k
  | _ => False
def retV (C : Cx) (fn : Func) (R : Value → World → Prop) (s : Sy) : Prop := mkV C s.D s.L fun L' => rsV C ⟨s.σ, L', []⟩ fn.results.toList fun vs => RetP C R (oneOf vs) L'
def retK (C : Cx) (fn : Func) (R : Value → World → Prop) : Exit → Sy → Prop := fun e s => match e with
 | .ret => retV C fn R s
 | .normal => retV C fn R s
 | _ => False
def par : Nat → List Value → Fr
 | _, [] => []
 | i, v :: l => (i, v) :: par (i + 1) l
theorem par_get (vs : List Value) : ∀ (k i : Nat) (v : Value), get (par k vs) i = some v → k ≤ i ∧ vs[i - k]? = some v := by
 induction vs with
 | nil => intro k i v h; cases h
 | cons u vs ih =>
  intro k i v h
  simp only [par, get] at h
  cases hb : Nat.beq k i
  · rw [hb] at h
    obtain ⟨h1, h2⟩ := ih (k + 1) i v h
    refine ⟨by omega, ?_⟩
    rw [show i - k = (i - (k + 1)) + 1 by omega]; exact h2
  · rw [hb] at h
    have := Nat.eq_of_beq_eq_true hb
    subst this
    exact ⟨Nat.le_refl _, by simpa using h⟩
def rdV (tmps : Array Value) : ResultVar → Sem Value
 | .tmp t => pure (tmps.getD t undef)
 | .cell x t => do loadVar t (← asAddr (tmps.getD x undef))
theorem results_rd (fn : Func) (tmps : Array Value) : results fn tmps = (fn.results.mapM (rdV tmps) >>= fun vs => pure (if h : vs.size = 1 then vs[0] else .tuple vs)) := by
 unfold results
 congr 1
theorem rsV_run {C : Cx} (hT : TabOk C.P C.T) {s : Sy} {a : Act} {w : World} (hf : ∀ i v, get s.σ i = some v → a.tmps.getD i undef = v) (hs : St C.M C.B w s.L) (l : List ResultVar) (k : List Value → Prop) (h : rsV C s l k) :
 ∃ vs, k vs ∧ (l.mapM (rdV a.tmps)).run C.P w = .ok vs w := by
 induction l generalizing k with
 | nil => exact ⟨[], h, by simp⟩
 | cons r l ih =>
  cases r with
  | tmp t =>
   obtain ⟨v, hv, hk⟩ := ZC _ _ _ h
   obtain ⟨vs, h1, h2⟩ := ih _ hk
   refine ⟨v :: vs, h1, ?_⟩
   rw [List.mapM_cons]
   simp only [rdV, hf t v hv, Sem.run_bind, Sem.run_pure, Result.andThen_ok, h2]
  | cell t ty =>
   obtain ⟨u, hu, hk⟩ := ZC _ _ _ h
   obtain ⟨y, n, hk, hrow⟩ := hT.row hk
   split at hk
   · rename_i b o _
     have hag := (qG hrow).agg
     have key : ∃ v, (loadVar ty ⟨b, o, none⟩).run C.P w = .ok v w ∧ rsV C s l fun vs => k (v :: vs) := by
      cases hy : y.agg
      · rw [hy] at hk hag
        obtain ⟨v, hc, go⟩ := hk
        exact ⟨v, by simp [loadVar, qa1 hag.1 hag.2, hc w hs, load, Sem.run], go⟩
      · rw [hy] at hk hag
        obtain ⟨c, hn, hc, go⟩ := hk
        refine ⟨.agg c, ?_, go⟩
        cases hd : C.P.underlying ty with
        | none => rw [hd] at hag; cases hag.2
        | some d =>
         rw [hd] at hag
         have := run_loadVar_mid (P := C.P) w b o ty c.toList d (hc w hs) hd (by cases d <;> simp_all [zT]) (by rw [qdy hrow]; simpa using hn.symm)
         simpa using this
     obtain ⟨v, hr, go⟩ := key
     obtain ⟨vs, h1, h2⟩ := ih _ go
     refine ⟨v :: vs, h1, ?_⟩
     rw [List.mapM_cons]
     simp only [rdV, hf t _ hu, asAddr, Sem.run_bind, Sem.run_pure, Result.andThen_ok, hr, h2]
   · exact hk.elim
theorem qa3 {C : Cx} (hT : TabOk C.P C.T) {fn : Func} {R : Value → World → Prop} {σ : Fr} {a : Act} {n : Nat} (hf : ∀ i v, get σ i = some v → a.tmps.getD i undef = v) (D : List Deferred) :
 ∀ (L : List Ent) (w : World), St C.M C.B w L → (mkV C D L fun L' => rsV C ⟨σ, L', []⟩ fn.results.toList fun vs => RetP C R (oneOf vs) L') → LeavesInM Fence.wide n C.P fn a.tmps (fun e w' => ∃ v, e = .returned v ∧ R v w') D .returning w := by
 induction D with
 | nil =>
  intro L w hs h
  obtain ⟨vs, hr, hrun⟩ := rsV_run hT (s := ⟨σ, L, []⟩) hf hs _ _ h
  refine ⟨oneOf vs, ?_, _, rfl, hr.go w hs⟩
  rw [results_rd, Array.mapM_eq_mapM_toList, map_eq_pure_bind]
  simp only [Sem.run_bind, hrun, Result.andThen_ok, Sem.run_pure]
  unfold oneOf
  rcases vs with _ | ⟨v, _ | ⟨u, l⟩⟩ <;> simp
 | cons d D ih =>
  intro L w hs h
  unfold mkV at h
  split at h
  · rename_i b hb
    obtain ⟨i, hi, go⟩ := h
    have hk := hs.nth hi
    have hlt := (Array.getElem?_eq_some_iff.1 hk).1
    refine ⟨by simp, .inl ⟨b, _, hb, run_takeDeferred hk, ih _ _ ?_ go⟩⟩
    exact hs.set hi (by rw [World.putObj_size]; exact Nat.le_refl _) (World.putObj_heap_same hlt) (fun j _ hj => World.putObj_heap_other hj) rfl rfl rfl
  · rename_i g cs hb
    have e1 : (d.args.toList ++ cs.toList).toArray = d.args ++ cs := by apply Array.ext'; simp
    have hc := h.hc w
    have hg := h.go w hs (n - 1)
    rw [e1] at hc hg
    refine ⟨by simp, .inr ⟨(fun e => by cases e), .func g, cs, g, _, hb, (by rw [hb]; exact hc), fun _ _ => trivial, hg.mono ?_⟩⟩
    rintro e u w' ⟨rfl, v, L', rfl, h1, h2⟩
    exact ih L' w' h1 h2
  · exact h.elim
theorem enter {P : Program} {T : Tab} (hT : TabOk P T) {g : FuncId} {fn : Func} {c : Code} (hf : P.funcs[g]? = some fn) (hb : fn.body = some c) {N : Nat} (hN : fn.ntmps = N) {vs : List Value} (hle : Nat.ble vs.length N = true) {M : Bks} {w : World} {L : List Ent}
 {R : Value → World → Prop} (hs : St M w w L) (h : cx ⟨P, T, N, M, w, none⟩ c (retK ⟨P, T, N, M, w, none⟩ fn R) ⟨par 0 vs, L, []⟩) : Calls P g vs.toArray w fun e w' => ∃ v, e = .returned v ∧ R v w' := by
 subst hN
 refine (callsIn_wide (n := 3)).1 (callsIn_of_wp_marks hf hb trivial (wpIn_mono ((ZO (C := ⟨P, T, fn.ntmps, M, w, none⟩) hT _ _ _ h).go 3 _ w ⟨by have := Nat.le_of_ble_eq_true hle; simp; omega, rfl, ?_⟩ hs) ?_) rfl)
 · intro i v hv
   obtain ⟨_, h1⟩ := par_get _ _ _ _ hv
   have hi : i < vs.length := (List.getElem?_eq_some_iff.1 h1).1
   simp [Array.getD_eq_getD_getElem?, Array.getElem?_append, hi]
   simpa [hi] using h1
 · rintro e a w' ⟨s, hf', hs', hk⟩
   have hd := hf'.defers
   cases e with
   | normal => simp only [bodyPostM, hd]; exact qa3 (C := ⟨P, T, fn.ntmps, M, w, none⟩) hT hf'.slot s.D s.L w' hs' hk
   | ret => simp only [bodyPostM, hd]; exact qa3 (C := ⟨P, T, fn.ntmps, M, w, none⟩) hT hf'.slot s.D s.L w' hs' hk
   | _ => exact hk.elim
end
section
open Go Go.RowKit
variable {C : Cx} {ops : Array Oper} {L0 : List Ent} {f : List Nat}
theorem Fin.mono {k k' : Value → List Ent → Prop} (hk : ∀ v L, k v L → k' v L) {r : Result Next} (h : Fin C k r) : Fin C k' r := by
 unfold Fin at *
 split at h
 · obtain ⟨L, h1, h2⟩ := h; exact ⟨L, h1, hk _ _ h2⟩
 · obtain ⟨L, h1, h2⟩ := h; exact ⟨L, h1, hk _ _ h2⟩
 · exact Calls.mono h fun e w he => by obtain ⟨v, L, h0, h1, h2⟩ := he; exact ⟨v, L, h0, h1, hk _ _ h2⟩
 · exact Rows.mono h fun e w he => by obtain ⟨L, h1, h2⟩ := he; exact ⟨L, h1, hk _ _ h2⟩
 · exact fun m => (h m).mono fun e w he => by obtain ⟨v, L, h0, h1, h2⟩ := he; exact ⟨v, L, h0, h1, hk _ _ h2⟩
 · exact h.elim
def FinT (C : Cx) (v : Value) (w : World) : Result Next → Prop
 | .ok (.value u) w' => u = v ∧ w' = w
 | .ok (.enter g args) w' => w' = w ∧ Calls C.P g args w fun e w'' => e = .returned v ∧ Below w.heap.size w w''
 | _ => False
def Tk (C : Cx) (ops : Array Oper) (L0 : List Ent) (o : Oper) (v : Value) (a : Act) : Prop :=
 (Region.wanted o (yielded ops a.tmps) = true ∧ ∀ w, St C.M C.B w L0 → FinT C v w ((execOp a.eval o).run C.P w)) ∨ (Region.wanted o (yielded ops a.tmps) = false ∧ v = undef)
def StepG (C : Cx) (ops : Array Oper) (o : Oper) (a : Act) (w : World) (L : List Ent) (k : Value → List Ent → Prop) : Prop :=
 (Region.wanted o (yielded ops a.tmps) = true → OpS C o a.eval w k) ∧ (Region.wanted o (yielded ops a.tmps) = false → k undef L)
theorem StepG.mono {o : Oper} {a : Act} {w : World} {L : List Ent} {k k' : Value → List Ent → Prop} (hk : ∀ v L, k v L → k' v L) (h : StepG C ops o a w L k) : StepG C ops o a w L k' :=
 ⟨fun hw => Fin.mono hk (h.1 hw), fun hw => hk _ _ (h.2 hw)⟩
def Qo (i : Nat) : List Nat → Bool
 | [] => false
 | x :: l => cond (Nat.beq i x) true (Qo i l)
def dG (C : Cx) (ops : Array Oper) (L0 : List Ent) (f : List Nat) (Q : Act → World → Prop) : Nat → Array Bool → Sy → Prop
 | 0, listed, s => Region.ready .any ops listed = [] ∧ ∀ a w, Fits C.N s a → St C.M C.B w s.L → Q a w
 | n + 1, listed, s => (Region.ready .any ops listed = [] → ∀ a w, Fits C.N s a → St C.M C.B w s.L → Q a w) ∧
  ∀ j ∈ Region.ready .any ops listed, ∀ o, ops[j]? = some o → ∀ a w, Fits C.N s a → St C.M C.B w s.L →
   StepG C ops o a w s.L fun u L' => (Qo j f = false → Sub L0 L') ∧ dG C ops L0 f Q n (listed.setIfInBounds j true) ⟨put C.N o.dst u s.σ, L', s.D⟩
variable {Q : Act → World → Prop}
theorem dG_any {Q' : Exit → Act → World → Prop} {m : Nat} (hQ : ∀ a w, Q a w → Q' .normal a w) (n : Nat) : ∀ (listed : Array Bool) (s : Sy), dG C ops L0 f Q n listed s → ∀ a w, Fits C.N s a → St C.M C.B w s.L → wpAnyIn C.fence m C.P .any ops Q' n listed a w := by
 have fnw : ∀ f, C.fence.fn f := by unfold Cx.fence; cases C.F <;> exact fun _ => trivial
 induction n with
 | zero => intro listed s h a w hf hs; exact ⟨h.1, hQ _ _ (h.2 a w hf hs)⟩
 | succ n ih =>
  intro listed s h a w hf hs
  refine ⟨fun h0 => hQ _ _ (h.1 h0 a w hf hs), fun j hj => ?_⟩
  obtain ⟨_, o, ho, _⟩ := mem_ready.1 hj
  have h1 := h.2 j hj o ho a w hf hs
  unfold wpOpIn
  rw [ho]
  cases hw : Region.wanted o (yielded ops a.tmps)
  · simp only [hw, Bool.false_eq_true, if_false]
    exact ⟨fun f _ => fnw f, ih _ _ (h1.2 hw).2 _ _ (hf.put _ _ _) hs⟩
  · simp only [hw, if_true]
    exact op_in (h1.1 hw) fun v L' w' h2 h3 => ih _ _ h3.2 _ _ (hf.put _ _ _) h2
def Eqv (σ τ : Fr) : Prop := ∀ t, get σ t = get τ t
theorem qa7 (N : Nat) (d : Option Nat) (v : Value) (σ : Fr) (t : Nat) : get (put N d v σ) t = if d = some t ∧ t < N then some v else get σ t := by
 cases d with
 | none => simp [put]
 | some d =>
  unfold put
  by_cases hd : d < N
  · have hb : Nat.blt d N = true := by simpa using hd
    simp only [hb, cond_true, get]
    by_cases hdt : d = t
    · subst hdt; simp [hd]
    · have : Nat.beq d t = false := Bool.eq_false_iff.2 fun e => hdt (Nat.eq_of_beq_eq_true e)
      simp [this, hdt]
  · have hb : Nat.blt d N = false := Bool.eq_false_iff.2 fun e => hd (by simpa using e)
    simp only [hb, cond_false]
    rw [if_neg]
    rintro ⟨h1, h2⟩
    obtain rfl := Option.some.inj h1
    exact hd h2
theorem Eqv.put {σ τ : Fr} (h : Eqv σ τ) (N : Nat) (d : Option Nat) (v : Value) : Eqv (put N d v σ) (put N d v τ) := fun t => by rw [qa7, qa7, h t]
theorem eqv_comm (N : Nat) (d e : Option Nat) (v u : Value) (σ : Fr) (h : ∀ t, d = some t → e ≠ some t) : Eqv (put N d v (put N e u σ)) (put N e u (put N d v σ)) := fun t => by
 simp only [qa7]
 by_cases h1 : d = some t ∧ t < N
 · have := h t h1.1
   simp [h1, this]
 · rw [if_neg h1]
   by_cases h2 : e = some t ∧ t < N
   · simp [h2]
   · rw [if_neg h2, if_neg h2, if_neg h1]
theorem Fits.eqv {N : Nat} {σ τ : Fr} {L L' : List Ent} {D : List Deferred} {a : Act} (h : Fits N ⟨τ, L, D⟩ a) (he : Eqv σ τ) : Fits N ⟨σ, L', D⟩ a := ⟨h.size, h.defers, fun i v hv => h.slot i v ((he i).symm.trans hv)⟩
theorem dG_eqv (n : Nat) : ∀ (listed : Array Bool) (σ τ : Fr) (L : List Ent) (D : List Deferred), Eqv σ τ → dG C ops L0 f Q n listed ⟨σ, L, D⟩ → dG C ops L0 f Q n listed ⟨τ, L, D⟩ := by
 induction n with
 | zero => intro listed σ τ L D he h; exact ⟨h.1, fun a w hf hs => h.2 a w (hf.eqv he) hs⟩
 | succ n ih =>
  intro listed σ τ L D he h
  refine ⟨fun h0 a w hf hs => h.1 h0 a w (hf.eqv he) hs, fun j hj o ho a w hf hs => ?_⟩
  exact (h.2 j hj o ho a w (hf.eqv he) hs).mono fun u L' hk => ⟨hk.1, ih _ _ _ _ _ (he.put _ _ _) hk.2⟩
theorem Fits.put_back {N : Nat} {s : Sy} {L : List Ent} {a : Act} {d : Option Nat} {u : Value} (h : Fits N ⟨Sx.put N d u s.σ, L, s.D⟩ a) : ∃ x, Fits N s (a.put d x) := by
 cases d with
 | none => exact ⟨undef, h.size, h.defers, fun i v hv => h.slot i v (by rw [qa7]; simpa using hv)⟩
 | some d =>
  refine ⟨(get s.σ d).getD undef, by simp [Act.put, h.size], h.defers, fun i v hv => ?_⟩
  have h2 := h.slot i
  simp only [qa7] at h2
  simp only [Act.put, Array.getD_eq_getD_getElem?] at h2 ⊢
  by_cases hdi : d = i
  · subst hdi
    by_cases hd : d < N
    · simp [h.size, hd, hv]
    · have := h2 v (by rw [if_neg (by simp [hd])]; exact hv)
      rw [Array.getElem?_eq_none (by simp [h.size]; omega)]
      rw [Array.getElem?_eq_none (by rw [h.size]; omega)] at this
      exact this
  · rw [Array.getElem?_setIfInBounds_ne hdi]
    exact h2 v (by rw [if_neg (by simp [hdi])]; exact hv)
theorem Tk.same {o : Oper} (hs : ∀ cs b, o.op ≠ .select cs b) {v u : Value} {a : Act} {d : Option Nat} (hd : ∀ t, d = some t → t ∉ o.looksAt ops) (h : Tk C ops L0 o v (a.put d u)) : Tk C ops L0 o v a := by
 unfold Tk at *
 rwa [execOp_put o hs a d u hd, wanted_put o a d u hd] at h
def Shut (ops : Array Oper) (l : Array Bool) : Prop := ∀ j o, ops[j]? = some o → l.getD j true = true → ∀ e ∈ o.after, Region.binds .any e = true → l.getD e.on true = true
inductive Dep (ops : Array Oper) (i : Nat) : Nat → Prop
 | one {j : Nat} {o : Oper} {e : Edge} (ho : ops[j]? = some o) (he : e ∈ o.after) (hb : Region.binds .any e = true) (hi : e.on = i) : Dep ops i j
 | more {j : Nat} {o : Oper} {e : Edge} (ho : ops[j]? = some o) (he : e ∈ o.after) (hb : Region.binds .any e = true) (hd : Dep ops i e.on) : Dep ops i j
theorem getD_ft {l : Array Bool} {i : Nat} (h : l.getD i false = true) : l.getD i true = true := by
 by_cases hi : i < l.size
 · simpa [hi] using h
 · simp [Array.getElem?_eq_none (Nat.le_of_not_lt hi)]
theorem Dep.off {ops : Array Oper} {i j : Nat} {l : Array Bool} (hl : Shut ops l) (hi : l.getD i true = false) (h : Dep ops i j) : l.getD j true = false ∧ j ∉ Region.ready .any ops l := by
 have key : ∀ (j : Nat) (o : Oper) (e : Edge), ops[j]? = some o → e ∈ o.after → Region.binds .any e = true → l.getD e.on true = false → l.getD j true = false ∧ j ∉ Region.ready .any ops l := by
  intro j o e ho he hb h0
  refine ⟨?_, fun hr => ?_⟩
  · cases hj : l.getD j true
    · rfl
    · have := hl j o ho hj e he hb; rw [h0] at this; cases this
  · obtain ⟨_, o', ho', hall⟩ := mem_ready.1 hr
    obtain rfl : o' = o := Option.some.inj (ho'.symm.trans ho)
    have := getD_ft (hall e he hb)
    rw [h0] at this; cases this
 induction h with
 | one ho he hb heq => exact key _ _ _ ho he hb (heq ▸ hi)
 | more ho he hb _ ih => exact key _ _ _ ho he hb ih.1
theorem Shut.next {ops : Array Oper} {j : Nat} {l : Array Bool} (hl : Shut ops l) (hj : j ∈ Region.ready .any ops l) : Shut ops (l.setIfInBounds j true) := by
 have up : ∀ k, l.getD k true = true → (l.setIfInBounds j true).getD k true = true := by
  intro k hk
  by_cases hjk : j = k
  · subst hjk
    by_cases hlt : j < l.size
    · simp [hlt]
    · simp
  · rw [getD_set_ne true hjk]; exact hk
 intro k o hk h e he hb
 by_cases hjk : j = k
 · subst hjk
   obtain ⟨_, o', ho', hall⟩ := mem_ready.1 hj
   obtain rfl : o' = o := Option.some.inj (ho'.symm.trans hk)
   exact up _ (getD_ft (hall e he hb))
 · rw [getD_set_ne true hjk] at h
   exact up _ (hl k o hk h e he hb)
theorem qa8 {i : Nat} {oi : Oper} {v : Value} (hi : ops[i]? = some oi) (hsel : Region.noSelect ops = true) (hif : Qo i f = false) (hf : ∀ j, Qo j f = true → (ops[j]?).isSome = true → Dep ops i j) (n : Nat) :
 ∀ (listed : Array Bool) (s : Sy), Shut ops listed → (∀ j oj, ops[j]? = some oj → j ≠ i → listed.getD j true = false → (∀ e ∈ oj.after, Region.binds .any e = true → e.on ≠ i) → oi.apart ops oj = true) →
  i ∈ Region.ready .any ops listed → Sub L0 s.L → (∀ a, Fits C.N s a → Tk C ops L0 oi v a) → dG C ops L0 f Q n (listed.setIfInBounds i true) ⟨put C.N oi.dst v s.σ, s.L, s.D⟩ → dG C ops L0 f Q (n + 1) listed s := by
 have hse := Region.noSelect_spec hsel
 have own : ∀ (n : Nat) (listed : Array Bool) (s : Sy) (a : Act) (w : World), Sub L0 s.L → (∀ a, Fits C.N s a → Tk C ops L0 oi v a) → dG C ops L0 f Q n (listed.setIfInBounds i true) ⟨put C.N oi.dst v s.σ, s.L, s.D⟩ → Fits C.N s a → St C.M C.B w s.L →
  StepG C ops oi a w s.L fun u L' => (Qo i f = false → Sub L0 L') ∧ dG C ops L0 f Q n (listed.setIfInBounds i true) ⟨put C.N oi.dst u s.σ, L', s.D⟩ := by
  intro n listed s a w hsub hTk H hf' hs
  rcases hTk a hf' with ⟨hw, hr⟩ | ⟨hw, rfl⟩
  · refine ⟨fun _ => ?_, fun h => (by rw [hw] at h; cases h)⟩
    have h1 := hr w (hs.sub hsub)
    unfold OpS
    generalize (execOp a.eval oi).run C.P w = r at h1
    unfold FinT at h1
    split at h1
    · obtain ⟨rfl, rfl⟩ := h1; exact ⟨s.L, hs, fun _ => hsub, H⟩
    · obtain ⟨rfl, h2⟩ := h1
      refine Calls.mono h2 fun e w'' he => ?_
      obtain ⟨rfl, hb⟩ := he
      exact ⟨v, s.L, rfl, hs.call hb, fun _ => hsub, H⟩
    · exact h1.elim
  · exact ⟨fun h => (by rw [hw] at h; cases h), fun _ => ⟨fun _ => hsub, H⟩⟩
 induction n with
 | zero =>
  intro listed s _ _ hr hsub hTk H
  refine ⟨fun h => (by rw [h] at hr; cases hr), fun j hj o ho a w hf' hs => ?_⟩
  by_cases hji : j = i
  · subst hji
    obtain rfl : oi = o := Option.some.inj (hi.symm.trans ho)
    exact own 0 listed s a w hsub hTk H hf' hs
  · have h0 := ready_mono hj hji
    rw [H.1] at h0
    cases h0
 | succ n ih =>
  intro listed s hsh hfree hr hsub hTk H
  refine ⟨fun h => (by rw [h] at hr; cases hr), fun j hj o ho a w hf' hs => ?_⟩
  by_cases hji : j = i
  · subst hji
    obtain rfl : oi = o := Option.some.inj (hi.symm.trans ho)
    exact own (n + 1) listed s a w hsub hTk H hf' hs
  have hiun := (mem_ready.1 hr).1
  obtain ⟨hjun, oj, hoj, hall⟩ := mem_ready.1 hj
  obtain rfl : o = oj := Option.some.inj (ho.symm.trans hoj)
  have hnot : ∀ e ∈ o.after, Region.binds .any e = true → e.on ≠ i := by
   intro e he hb heq
   have h1 := hall e he hb
   rw [heq] at h1
   by_cases hlt : i < listed.size
   · simp [hlt] at hiun h1; rw [hiun] at h1; cases h1
   · simp [Array.getElem?_eq_none (Nat.le_of_not_lt hlt)] at h1
  have hjf : Qo j f = false := by
   cases hm : Qo j f
   · rfl
   · exact absurd hj ((hf j hm (by rw [hoj]; rfl)).off hsh hiun).2
  have hap := hfree j o hoj hji hjun hnot
  obtain ⟨p1, p2, p3⟩ := Oper.apart_spec hap
  have h1 := H.2 j (ready_mono hj hji) o ho (a.put oi.dst v) w (hf'.put _ _ _) hs
  have h2 : StepG C ops o a w s.L fun u L' => (Qo j f = false → Sub L0 L') ∧ dG C ops L0 f Q n ((listed.setIfInBounds i true).setIfInBounds j true) ⟨put C.N o.dst u (put C.N oi.dst v s.σ), L', s.D⟩ := by
   unfold StepG OpS at *
   rwa [execOp_put o (fun cs b => hse j o cs b ho) a oi.dst v p1, wanted_put o a oi.dst v p1] at h1
  refine h2.mono fun u L' hk => ⟨hk.1, ?_⟩
  refine ih (listed.setIfInBounds j true) ⟨put C.N o.dst u s.σ, L', s.D⟩ (hsh.next hj) ?_ (ready_mono hr (Ne.symm hji)) (hk.1 hjf) ?_ ?_
  · intro k ok hok hki hun hno
    refine hfree k ok hok hki ?_ hno
    by_cases hjk : j = k
    · subst hjk; exact hjun
    · have e : (listed.setIfInBounds j true).getD k true = listed.getD k true := by simp [Array.getElem?_setIfInBounds_ne hjk]
      rw [e] at hun; exact hun
  · intro a' ha'
    obtain ⟨x, hx⟩ := Fits.put_back ha'
    exact (hTk _ hx).same (fun cs b => hse i oi cs b hi) p3
  · rw [Array.setIfInBounds_comm _ _ hji]
    exact dG_eqv n _ _ _ _ _ (eqv_comm _ _ _ _ _ _ fun t ht hd => p2 t hd ht) hk.2
inductive Od where
 | nil | t (i : Nat) (r : Od) | n (i : Nat) (r : Od) | b (i j : Nat) (r q : Od) | c (i j k : Nat) (r q s : Od)
def Od.len : Od → Nat
 | .nil => 0
 | .t _ r => r.len + 1
 | .n _ r => r.len + 1
 | .b _ _ r q => max r.len q.len + 1
 | .c _ _ _ r q s => max r.len (max q.len s.len) + 1
def Od.fin (f : List Nat) : Od → Bool
 | .nil => true
 | .t _ _ => false
 | .n i r => Qo i f && r.fin f
 | .b i j r q => Qo i f && Qo j f && r.fin f && q.fin f
 | .c i j k r q s => Qo i f && Qo j f && Qo k f && r.fin f && q.fin f && s.fin f
def depF (ops : Array Oper) (i : Nat) : Nat → List Nat
 | 0 => []
 | n + 1 => match ops[n]? with
  | some o => cond (o.after.any fun e => Region.binds .any e && (Nat.beq e.on i || Qo e.on (depF ops i n))) (n :: depF ops i n) (depF ops i n)
  | none => depF ops i n
def waits (ops : Array Oper) (i f : Nat) : Bool := match ops[f]? with
 | some o => (o.after.any fun e => Region.binds .any e && Nat.beq e.on i) || Qo f (depF ops i (f + 1))
 | none => true
def allN (p : Nat → Bool) : List Nat → Bool
 | [] => true
 | x :: l => p x && allN p l
theorem allN_mem {p : Nat → Bool} {l : List Nat} (h : allN p l = true) {j : Nat} (hj : Qo j l = true) : p j = true := by
 induction l with
 | nil => cases hj
 | cons x l ih =>
  simp only [allN, Bool.and_eq_true] at h
  simp only [Qo] at hj
  cases hb : Nat.beq j x
  · rw [hb] at hj; exact ih h.2 hj
  · rw [Nat.eq_of_beq_eq_true hb]; exact h.1
theorem depF_dep {ops : Array Oper} {i : Nat} (n : Nat) : ∀ j, Qo j (depF ops i n) = true → Dep ops i j := by
 induction n with
 | zero => intro j hj; cases hj
 | succ n ih =>
  intro j hj
  simp only [depF] at hj
  split at hj
  · rename_i o ho
    cases hc : (o.after.any fun e => Region.binds .any e && (Nat.beq e.on i || Qo e.on (depF ops i n)))
    · rw [hc] at hj; exact ih j hj
    · rw [hc] at hj
      simp only [cond_true, Qo] at hj
      cases hb : Nat.beq j n
      · rw [hb] at hj; exact ih j hj
      · obtain rfl := Nat.eq_of_beq_eq_true hb
        obtain ⟨e, he, h1⟩ := Array.any_eq_true'.1 hc
        simp only [Bool.and_eq_true, Bool.or_eq_true] at h1
        rcases h1.2 with h2 | h2
        · exact .one ho he h1.1 (Nat.eq_of_beq_eq_true h2)
        · exact .more ho he h1.1 (ih _ h2)
  · exact ih j hj
theorem qew {ops : Array Oper} {i f : Nat} (h : waits ops i f = true) (hs : (ops[f]?).isSome = true) : Dep ops i f := by
 unfold waits at h
 split at h
 · rename_i o ho
   simp only [Bool.or_eq_true] at h
   rcases h with h | h
   · obtain ⟨e, he, h1⟩ := Array.any_eq_true'.1 h
     simp only [Bool.and_eq_true] at h1
     exact .one ho he h1.1 (Nat.eq_of_beq_eq_true h1.2)
   · exact depF_dep _ _ h
 · rename_i ho; rw [ho] at hs; cases hs
def tOk (ops : Array Oper) (f : List Nat) (listed : Array Bool) (i : Nat) : Bool := Region.free .any ops listed i && (Region.ready .any ops listed).contains i && !Qo i f && allN (waits ops i) f
def Zb (ops : Array Oper) (f : List Nat) : Od → Array Bool → Bool
 | .nil, l => Region.ready .any ops l == []
 | .t i r, l => tOk ops f l i && Zb ops f r (l.setIfInBounds i true)
 | .n i r, l => Region.ready .any ops l == [i] && (!Qo i f || r.fin f) && Zb ops f r (l.setIfInBounds i true)
 | .b i j r q, l => Region.ready .any ops l == [i, j] && (!Qo i f || r.fin f) && (!Qo j f || q.fin f) && Zb ops f r (l.setIfInBounds i true) && Zb ops f q (l.setIfInBounds j true)
 | .c i j k r q s, l => Region.ready .any ops l == [i, j, k] && (!Qo i f || r.fin f) && (!Qo j f || q.fin f) && (!Qo k f || s.fin f) && Zb ops f r (l.setIfInBounds i true) && Zb ops f q (l.setIfInBounds j true) && Zb ops f s (l.setIfInBounds k true)
inductive C0P (C : Cx) (g : FuncId) (args : List Value) (L0 : List Ent) (next : Value → Prop) : Prop
 | mk (v : Value) (h : ∀ w, St C.M C.B w L0 → Calls C.P g args.toArray w fun e w' => e = .returned v ∧ Below w.heap.size w w') (go : next v)
def c0V (C : Cx) (L0 : List Ent) (f : Value) (args : List Value) (next : Value → Prop) : Prop := match f with
 | .func (.func g) fs cs => cond (QM C.T g) (C0P C g (fs.toList ++ (args ++ cs.toList)) L0 next) False
 | _ => False
def tkV (C : Cx) (L0 : List Ent) (o : Oper) (σ : Fr) (next : Value → Prop) : Prop := match o.op with
 | .call c => match c.callee with
  | .value f => ev σ f fun g => evs σ c.args.toList fun vs => c0V C L0 g vs next
  | _ => tx C o σ L0 next False
 | _ => tx C o σ L0 next False
structure KeepP (L0 L : List Ent) (p : Prop) : Prop where
 h : Sub L0 L
 go : p
def opAt (ops : Array Oper) (i : Nat) (k : Oper → Prop) : Prop := match ops[i]? with
 | some o => k o
 | none => False
def gd (ops : Array Oper) (o : Oper) (σ : Fr) (p q : Prop) : Prop := match o.guard with
 | none => p
 | some (j, want) => dstOf ops j fun d => find σ d fun u => guardV u want p q
def dn (C : Cx) (ops : Array Oper) (L0 : List Ent) (f : List Nat) (i : Nat) (go : Sy → Prop) : Sy → Prop
 | ⟨σ, L, D⟩ => opAt ops i fun o => gd ops o σ (ox C o σ L fun v L' => qep C.N o.dst v σ fun σ' => cond (Qo i f) (go ⟨σ', L', D⟩) (KeepP L0 L' (go ⟨σ', L', D⟩))) (qep C.N o.dst undef σ fun σ' => go ⟨σ', L, D⟩)
def dt (C : Cx) (ops : Array Oper) (L0 : List Ent) (i : Nat) (go : Sy → Prop) : Sy → Prop
 | ⟨σ, L, D⟩ => opAt ops i fun o => gd ops o σ (tkV C L0 o σ fun v => qep C.N o.dst v σ fun σ' => go ⟨σ', L, D⟩) (qep C.N o.dst undef σ fun σ' => go ⟨σ', L, D⟩)
def dB (C : Cx) (ops : Array Oper) (L0 : List Ent) (f : List Nat) (i j : Nat) (r q : (Sy → Prop) → Sy → Prop) : (Sy → Prop) → Sy → Prop := fun K s => dn C ops L0 f i (r K) s ∧ dn C ops L0 f j (q K) s
def dC (C : Cx) (ops : Array Oper) (L0 : List Ent) (f : List Nat) (i j k : Nat) (r q t : (Sy → Prop) → Sy → Prop) : (Sy → Prop) → Sy → Prop := fun K s => dn C ops L0 f i (r K) s ∧ dn C ops L0 f j (q K) s ∧ dn C ops L0 f k (t K) s
def dT (C : Cx) (ops : Array Oper) (L0 : List Ent) (i : Nat) (r : (Sy → Prop) → Sy → Prop) : (Sy → Prop) → Sy → Prop := fun K s => dt C ops L0 i (r K) s
def dN (C : Cx) (ops : Array Oper) (L0 : List Ent) (f : List Nat) (i : Nat) (r : (Sy → Prop) → Sy → Prop) : (Sy → Prop) → Sy → Prop := fun K s => dn C ops L0 f i (r K) s
def dx (C : Cx) (ops : Array Oper) (L0 : List Ent) (f : List Nat) (od : Od) : (Sy → Prop) → Sy → Prop :=
 Od.rec (motive := fun _ => (Sy → Prop) → Sy → Prop) (fun K s => K s) (fun i _ ih => dT C ops L0 i ih) (fun i _ ih => dN C ops L0 f i ih) (fun i j _ _ ih1 ih2 => dB C ops L0 f i j ih1 ih2) (fun i j k _ _ _ ih1 ih2 ih3 => dC C ops L0 f i j k ih1 ih2 ih3) od
theorem tkV_ok (hT : TabOk C.P C.T) {o : Oper} {σ : Fr} {ρ : Operand → Value} (hf : Fit σ ρ) {next : Value → Prop} (h : tkV C L0 o σ next) : ∃ v, next v ∧ ∀ w, St C.M C.B w L0 → FinT C v w ((execOp ρ o).run C.P w) := by
 have tcase : ∀ next, tx C o σ L0 next False → ∃ v, next v ∧ ∀ w, St C.M C.B w L0 → FinT C v w ((execOp ρ o).run C.P w) := by
  intro next h
  rcases tx_ok hT hf h with ⟨v, hv, hr⟩ | h
  · exact ⟨v, hv, fun w hs => by rw [hr w hs]; exact ⟨rfl, rfl⟩⟩
  · exact h.elim
 unfold tkV at h
 split at h
 · rename_i c ho
   split at h
   · rename_i x hc
     have h1 := hf.evs _ _ (hf x _ h)
     unfold c0V at h1
     split at h1
     · rename_i g fs cs hx
       cases hcl : QM C.T g
       · rw [hcl] at h1; exact h1.elim
       · rw [hcl] at h1
         obtain ⟨v, hcall, hv⟩ := h1
         refine ⟨v, hv, fun w hs => ?_⟩
         obtain ⟨fn, k1, k2, k3⟩ := Zh (zl hT hcl)
         have k4 : fn.name ≠ "runtime.NumGoroutine" := by simpa using k2
         have e1 : (fs.toList ++ (c.args.toList.map ρ ++ cs.toList)).toArray = fs ++ c.args.map ρ ++ cs := by apply Array.ext'; simp
         have hcall := hcall w hs
         rw [e1] at hcall
         have e2 : (execOp ρ o).run C.P w = .ok (.enter g (fs ++ c.args.map ρ ++ cs)) w := by
          unfold execOp
          simp only [ho, resolve, hc, hx]
          cases hb : fn.body with
          | none => rw [hb] at k3; cases k3
          | some code => simp [Deferred.ofValue, invoke, callFunc, k1, k4, hb]
         rw [e2]; exact ⟨rfl, hcall⟩
     · exact h1.elim
   · exact tcase _ h
 · exact tcase _ h
def canon (σ : Fr) : Operand → Value
 | .tmp t => (get σ t).getD undef
 | .const v => v
 | .global g => .pointer (some ⟨g, 0, none⟩)
 | .func f => .func (.func f) #[] #[]
theorem qcE (σ : Fr) : Fit σ (canon σ) := by
 intro x k hk
 cases x with
 | tmp t => obtain ⟨v, hv, h⟩ := ZC _ _ _ hk; simp only [canon, hv]; exact h
 | const v => exact hk
 | global g => exact hk
 | func f => exact hk
def qcT (σ : Fr) : Operand → Prop
 | .tmp t => (get σ t).isSome = true
 | _ => True
theorem qef {N : Nat} {s : Sy} {a : Act} (h : Fits N s a) {x : Operand} (hk : qcT s.σ x) : a.eval x = canon s.σ x := by
 cases x with
 | tmp t =>
  obtain ⟨v, hv⟩ := Option.isSome_iff_exists.1 hk
  simp only [Act.eval, canon, hv]
  exact h.slot t v hv
 | const v => rfl
 | global g => rfl
 | func f => rfl
theorem qy {σ : Fr} {x : Operand} {k : Value → Prop} (h : ev σ x k) : qcT σ x ∧ ∃ v, k v := by
 cases x with
 | tmp t => obtain ⟨v, hv, h⟩ := ZC _ _ _ h; exact ⟨by simp [qcT, hv], v, h⟩
 | const v => exact ⟨trivial, v, h⟩
 | global g => exact ⟨trivial, _, h⟩
 | func f => exact ⟨trivial, _, h⟩
theorem qcH {σ : Fr} {l : List Operand} {k : List Value → Prop} (h : evs σ l k) : (∀ x ∈ l, qcT σ x) ∧ ∃ v, k v := by
 induction l generalizing k with
 | nil => exact ⟨by simp, _, h⟩
 | cons x l ih =>
  obtain ⟨h1, v, h2⟩ := qy h
  obtain ⟨h3, vs, h4⟩ := ih h2
  exact ⟨by simpa using ⟨h1, h3⟩, _, h4⟩
theorem pevs_known {σ : Fr} {l : List (Nat × Operand)} {k : List (Nat × Value) → Prop} (h : pevs σ l k) : (∀ p ∈ l, qcT σ p.2) ∧ ∃ v, k v := by
 induction l generalizing k with
 | nil => exact ⟨by simp, _, h⟩
 | cons x l ih =>
  obtain ⟨h1, v, h2⟩ := qy h
  obtain ⟨h3, vs, h4⟩ := ih h2
  refine ⟨fun p hp => ?_, _, h4⟩
  rcases List.mem_cons.1 hp with rfl | hp
  · exact h1
  · exact h3 p hp
theorem qcq {σ : Fr} {x : Option Operand} {k : Option Value → Prop} (h : oev σ x k) : (∀ y, x = some y → qcT σ y) ∧ ∃ v, k v := by
 cases x with
 | none => exact ⟨by simp, _, h⟩
 | some x => obtain ⟨h1, v, h2⟩ := qy h; exact ⟨by rintro y hy; obtain rfl := Option.some.inj hy; exact h1, _, h2⟩
theorem tx_known {o : Oper} {σ : Fr} {next : Value → Prop} (h : tx C o σ L0 next False) : ∀ x ∈ o.op.operands, qcT σ x := by
 unfold tx at h
 split at h
 case h_1 x ho => rw [ho]; have := (qy h).1; simpa [Op.operands]
 case h_2 x ho => rw [ho]; have := (qy h).1; simpa [Op.operands]
 case h_3 c a b ho => rw [ho]; obtain ⟨h1, v, h⟩ := qy h; obtain ⟨h2, v, h⟩ := qy h; obtain ⟨h3, v, h⟩ := qy h; simpa [Op.operands] using ⟨h1, h2, h3⟩
 case h_4 t ps ho =>
  rw [ho]
  obtain ⟨h1, _⟩ := pevs_known h
  intro x hx
  simp only [Op.operands, List.mem_toArray, List.mem_map] at hx
  obtain ⟨p, hp, rfl⟩ := hx
  exact h1 p hp
 case h_5 t x ho => rw [ho]; have := (qy h).1; simpa [Op.operands]
 case h_6 x ho => rw [ho]; have := (qy h).1; simpa [Op.operands]
 case h_7 op t x y z ho => rw [ho]; obtain ⟨h1, v, h⟩ := qy h; obtain ⟨h2, v, h⟩ := qy h; simpa [Op.operands] using ⟨h1, h2⟩
 case h_8 op t x ho => rw [ho]; have := (qy h).1; simpa [Op.operands]
 case h_9 s d x ho => rw [ho]; have := (qy h).1; simpa [Op.operands]
 case h_10 t x ho => rw [ho]; have := (qy h).1; simpa [Op.operands]
 case h_11 t x ho => rw [ho]; have := (qy h).1; simpa [Op.operands]
 case h_12 fn fs cs ho =>
  rw [ho]; obtain ⟨h1, v, h⟩ := qcH h; obtain ⟨h2, v, h⟩ := qcH h
  intro x hx
  simp only [Op.operands, Array.mem_append] at hx
  rcases hx with hx | hx
  · exact h1 x (by simpa using hx)
  · exact h2 x (by simpa using hx)
 case h_13 t x lo hi m ho =>
  rw [ho]; obtain ⟨h1, v, h⟩ := qy h; obtain ⟨h2, v, h⟩ := qcq h; obtain ⟨h3, v, h⟩ := qcq h; obtain ⟨h4, v, h⟩ := qcq h
  intro y hy
  simp only [Op.operands, Array.mem_append] at hy
  rcases hy with ((hy | hy) | hy) | hy
  · obtain rfl : y = x := by simpa using hy
    exact h1
  · exact h2 y (by simpa using hy)
  · exact h3 y (by simpa using hy)
  · exact h4 y (by simpa using hy)
 case h_14 t x f ho => rw [ho]; have := (qy h).1; simpa [Op.operands]
 case h_15 t x f ho => rw [ho]; have := (qy h).1; simpa [Op.operands]
 case h_16 t x i ho => rw [ho]; obtain ⟨h1, v, h⟩ := qy h; obtain ⟨h2, v, h⟩ := qy h; simpa [Op.operands] using ⟨h1, h2⟩
 case h_17 t x i ho => rw [ho]; obtain ⟨h1, v, h⟩ := qy h; obtain ⟨h2, v, h⟩ := qy h; simpa [Op.operands] using ⟨h1, h2⟩
 case h_18 x i ho => rw [ho]; have := (qy h).1; simpa [Op.operands]
 case h_19 c ho =>
  rw [ho]
  split at h
  · rename_i hc
    split at h
    · rename_i x t hx ht
      have h1 := (qy h).1
      intro y hy
      simp only [Op.operands, Call.operands, hc, Array.mem_append] at hy
      rcases hy with hy | hy
      · simp at hy
      · have : y ∈ c.args.toList := by simpa using hy
        rw [hx] at this
        obtain rfl : y = x := by simpa using this
        exact h1
    · exact h.elim
  · rename_i hc
    split at h
    · rename_i x t hx ht
      have h1 := (qy h).1
      intro y hy
      simp only [Op.operands, Call.operands, hc, Array.mem_append] at hy
      rcases hy with hy | hy
      · simp at hy
      · have : y ∈ c.args.toList := by simpa using hy
        rw [hx] at this
        obtain rfl : y = x := by simpa using this
        exact h1
    · exact h.elim
  · exact h.elim
 case h_20 => exact h.elim
theorem qcb {o : Oper} {σ : Fr} {next : Value → Prop} (h : tkV C L0 o σ next) : ∀ x ∈ o.op.operands, qcT σ x := by
 unfold tkV at h
 split at h
 · rename_i c ho
   split at h
   · rename_i f hc
     obtain ⟨h1, v, h⟩ := qy h
     obtain ⟨h2, v, h⟩ := qcH h
     rw [ho]
     intro y hy
     simp only [Op.operands, Call.operands, hc, Array.mem_append] at hy
     rcases hy with hy | hy
     · obtain rfl : y = f := by simpa using hy
       exact h1
     · exact h2 y (by simpa using hy)
   · exact tx_known h
 · exact tx_known h
theorem gd_ok {o : Oper} {s : Sy} {p q : Prop} (h : gd ops o s.σ p q) : ∃ b, (b = true → p) ∧ (b = false → q) ∧ ∀ a, Fits C.N s a → Region.wanted o (yielded ops a.tmps) = b := by
 unfold gd at h
 split at h
 · rename_i hg; exact ⟨true, fun _ => h, fun h => (by cases h), fun a _ => qcN hg _⟩
 · rename_i j want hg
   unfold dstOf at h
   split at h
   · rename_i d hd
     obtain ⟨u, hu, hk⟩ := ZC _ _ _ h
     unfold guardV at hk
     split at hk
     · rename_i b
       refine ⟨b == want, hk.t, hk.f, fun a hf => ?_⟩
       have hy := qbg hd (hf.slot d _ hu)
       simp [Region.wanted, hg, hy, asB]
     · refine ⟨false, fun h => (by cases h), fun _ => hk, fun a hf => ?_⟩
       have hy := qbg hd (hf.slot d _ hu)
       simp [Region.wanted, hg, hy, asB]
     · exact hk.elim
   · exact h.elim
theorem dn_ok (hT : TabOk C.P C.T) {i : Nat} {go : Sy → Prop} {s : Sy} {n : Nat} {l : Array Bool} (hn : dn C ops L0 f i go s)
 (hgo : ∀ s', (Qo i f = false → Sub L0 s.L → Sub L0 s'.L) → go s' → dG C ops L0 f Q n (l.setIfInBounds i true) s') (hsub : Sub L0 s.L ∨ Qo i f = true) :
 ∀ o, ops[i]? = some o → ∀ a w, Fits C.N s a → St C.M C.B w s.L → StepG C ops o a w s.L fun u L' => (Qo i f = false → Sub L0 L') ∧ dG C ops L0 f Q n (l.setIfInBounds i true) ⟨put C.N o.dst u s.σ, L', s.D⟩ := by
 intro o ho a w hf hs
 obtain ⟨σ, L, D⟩ := s
 unfold dn opAt at hn
 simp only [qbI] at hn
 rw [ho] at hn
 obtain ⟨b, hp, hq, hb⟩ := gd_ok (C := C) (s := ⟨σ, L, D⟩) hn
 have hb := hb a hf
 refine ⟨fun hw => ?_, fun hw => ?_⟩
 · have hox := hp (hb.symm.trans hw)
   refine Fin.mono (fun v L' hk => ?_) (ox_ok hT hf.fit hs hox)
   cases hif : Qo i f
   · rw [hif] at hk
     exact ⟨fun _ => hk.h, hgo _ (fun _ _ => hk.h) hk.go⟩
   · rw [hif] at hk
     exact ⟨fun h => (by cases h), hgo _ (fun h => (by rw [hif] at h; cases h)) hk⟩
 · have hgs := hq (hb.symm.trans hw)
   refine ⟨fun h => hsub.resolve_right (by rw [h]; decide), hgo _ (fun _ h => h) hgs⟩
theorem dx_ok (hT : TabOk C.P C.T) (hsel : Region.noSelect ops = true) {K : Sy → Prop} (od : Od) : ∀ (n : Nat) (l : Array Bool) (s : Sy), od.len ≤ n → Shut ops l → Zb ops f od l = true → (Sub L0 s.L ∨ od.fin f = true) → dx C ops L0 f od K s → dG C ops L0 f (Q9 C K) n l s := by
 have one : ∀ (i : Nat) (r : Od) (n : Nat) (l : Array Bool) (s : Sy), (∀ s', (Sub L0 s'.L ∨ r.fin f = true) → dx C ops L0 f r K s' → dG C ops L0 f (Q9 C K) n (l.setIfInBounds i true) s') → (!Qo i f || r.fin f) = true → (Sub L0 s.L ∨ Qo i f = true) → dn C ops L0 f i (dx C ops L0 f r K) s →
  ∀ o, ops[i]? = some o → ∀ a w, Fits C.N s a → St C.M C.B w s.L → StepG C ops o a w s.L fun u L' => (Qo i f = false → Sub L0 L') ∧ dG C ops L0 f (Q9 C K) n (l.setIfInBounds i true) ⟨put C.N o.dst u s.σ, L', s.D⟩ := by
  intro i r n l s ih hif hsub h
  refine dn_ok hT h (fun s' hs' hgo => ih s' ?_ hgo) hsub
  cases hi : Qo i f
  · left; exact hs' hi (hsub.resolve_right (by rw [hi]; decide))
  · right; simpa [hi] using hif
 induction od with
 | nil =>
  intro n l s _ _ hok _ h
  have h0 : Region.ready .any ops l = [] := by simpa [Zb] using hok
  cases n with
  | zero => exact ⟨h0, fun a w hf hs => ⟨s, hf, hs, h⟩⟩
  | succ n => exact ⟨fun _ a w hf hs => ⟨s, hf, hs, h⟩, fun j hj => by rw [h0] at hj; cases hj⟩
 | t i r ih =>
  intro n l s hn hsh hok hsub h
  have hsb := hsub.resolve_right (by simp [Od.fin])
  simp only [Zb, Bool.and_eq_true] at hok
  obtain ⟨hk, hr⟩ := hok
  simp only [tOk, Bool.and_eq_true, Bool.not_eq_true'] at hk
  obtain ⟨⟨⟨k1, k2⟩, k3⟩, k4⟩ := hk
  simp only [Od.len] at hn
  obtain ⟨n, rfl⟩ : ∃ m, n = m + 1 := ⟨n - 1, by omega⟩
  obtain ⟨σ, L, D⟩ := s
  change dt C ops L0 i (dx C ops L0 f r K) ⟨σ, L, D⟩ at h
  simp only [dt, opAt, qbI] at h
  split at h
  · rename_i o ho
    have hf' : ∀ j, Qo j f = true → (ops[j]?).isSome = true → Dep ops i j := fun j hj hs => qew (allN_mem k4 hj) hs
    have hrd : i ∈ Region.ready .any ops l := by simpa using k2
    obtain ⟨b, hp, hq, hb⟩ := gd_ok (C := C) (s := ⟨σ, L, D⟩) h
    cases b with
    | false => exact qa8 (v := undef) ho hsel k3 hf' n l _ hsh (Region.free_spec ho k1) hrd hsb (fun a ha => .inr ⟨hb a ha, rfl⟩) (ih n _ _ (by omega) (hsh.next hrd) hr (.inl hsb) (hq rfl))
    | true =>
     have key : ∃ v, dx C ops L0 f r K ⟨put C.N o.dst v σ, L, D⟩ ∧ ∀ a, Fits C.N ⟨σ, L, D⟩ a → ∀ w, St C.M C.B w L0 → FinT C v w ((execOp a.eval o).run C.P w) := by
      obtain ⟨v, hv, hr'⟩ := tkV_ok hT (qcE σ) (hp rfl)
      refine ⟨v, hv, fun a ha w hs => ?_⟩
      rw [execOp_congr o (fun cs b => Region.noSelect_spec hsel i o cs b ho) (fun x hx => qef ha (qcb (hp rfl) x hx))]
      exact hr' w hs
     obtain ⟨v, hv, hr'⟩ := key
     exact qa8 (v := v) ho hsel k3 hf' n l _ hsh (Region.free_spec ho k1) hrd hsb (fun a ha => .inl ⟨hb a ha, hr' a ha⟩) (ih n _ _ (by omega) (hsh.next hrd) hr (.inl hsb) hv)
  · exact h.elim
 | n i r ih =>
  intro n l s hn hsh hok hsub h
  have hsb : Sub L0 s.L ∨ Qo i f = true := hsub.imp id fun h => by simp only [Od.fin, Bool.and_eq_true] at h; exact h.1
  simp only [Zb, Bool.and_eq_true, beq_iff_eq] at hok
  obtain ⟨⟨k1, k2⟩, hr⟩ := hok
  simp only [Od.len] at hn
  obtain ⟨n, rfl⟩ : ∃ m, n = m + 1 := ⟨n - 1, by omega⟩
  refine ⟨fun h0 => (by rw [k1] at h0; cases h0), fun j hj => ?_⟩
  rw [k1] at hj
  obtain rfl : j = i := by simpa using hj
  exact one j r n l s (fun s' h1 h2 => ih n _ _ (by omega) (hsh.next (by rw [k1]; simp)) hr h1 h2) k2 hsb h
 | b i j r q ih1 ih2 =>
  intro n l s hn hsh hok hsub h
  have hsb : Sub L0 s.L ∨ Qo i f = true := hsub.imp id fun h => by simp only [Od.fin, Bool.and_eq_true] at h; exact h.1.1.1
  have hsc : Sub L0 s.L ∨ Qo j f = true := hsub.imp id fun h => by simp only [Od.fin, Bool.and_eq_true] at h; exact h.1.1.2
  simp only [Zb, Bool.and_eq_true, beq_iff_eq] at hok
  obtain ⟨⟨⟨⟨k1, k2⟩, k3⟩, hr⟩, hq⟩ := hok
  simp only [Od.len] at hn
  obtain ⟨n, rfl⟩ : ∃ m, n = m + 1 := ⟨n - 1, by omega⟩
  refine ⟨fun h0 => (by rw [k1] at h0; cases h0), fun m hm => ?_⟩
  rw [k1] at hm
  have : m = i ∨ m = j := by simpa using hm
  rcases this with rfl | rfl
  · exact one m r n l s (fun s' h1 h2 => ih1 n _ _ (by omega) (hsh.next (by rw [k1]; simp)) hr h1 h2) k2 hsb h.1
  · exact one m q n l s (fun s' h1 h2 => ih2 n _ _ (by omega) (hsh.next (by rw [k1]; simp)) hq h1 h2) k3 hsc h.2
 | c i j k r q t ih1 ih2 ih3 =>
  intro n l s hn hsh hok hsub h
  have hsb : Sub L0 s.L ∨ Qo i f = true := hsub.imp id fun h => by simp only [Od.fin, Bool.and_eq_true] at h; exact h.1.1.1.1.1
  have hsc : Sub L0 s.L ∨ Qo j f = true := hsub.imp id fun h => by simp only [Od.fin, Bool.and_eq_true] at h; exact h.1.1.1.1.2
  have hsd : Sub L0 s.L ∨ Qo k f = true := hsub.imp id fun h => by simp only [Od.fin, Bool.and_eq_true] at h; exact h.1.1.1.2
  simp only [Zb, Bool.and_eq_true, beq_iff_eq] at hok
  obtain ⟨⟨⟨⟨⟨⟨k1, k2⟩, k3⟩, k4⟩, hr⟩, hq⟩, ht⟩ := hok
  simp only [Od.len] at hn
  obtain ⟨n, rfl⟩ : ∃ m, n = m + 1 := ⟨n - 1, by omega⟩
  refine ⟨fun h0 => (by rw [k1] at h0; cases h0), fun m hm => ?_⟩
  rw [k1] at hm
  have : m = i ∨ m = j ∨ m = k := by simpa using hm
  rcases this with rfl | rfl | rfl
  · exact one m r n l s (fun s' h1 h2 => ih1 n _ _ (by omega) (hsh.next (by rw [k1]; simp)) hr h1 h2) k2 hsb h.1
  · exact one m q n l s (fun s' h1 h2 => ih2 n _ _ (by omega) (hsh.next (by rw [k1]; simp)) hq h1 h2) k3 hsc h.2.1
  · exact one m t n l s (fun s' h1 h2 => ih3 n _ _ (by omega) (hsh.next (by rw [k1]; simp)) ht h1 h2) k4 hsd h.2.2
theorem drs (L0 : List Ent) (fs : List Nat) (od : Od) (hT : TabOk C.P C.T) {id : Nat} {K : Exit → Sy → Prop} {s : Sy} (hm : C.P.follows .mixedOrders = true)
 (hok : (Region.noSelect ops && Nat.ble od.len ops.size && Zb ops fs od (Array.replicate ops.size false)) = true) (hL : Sub L0 s.L) (h : dx C ops L0 fs od (K .normal) s) : qb8 C id ops K s := by
 simp only [Bool.and_eq_true] at hok
 obtain ⟨⟨h1, h2⟩, h3⟩ := hok
 refine ⟨fun n a w hf hs => ?_⟩
 have hsh : Shut ops (Array.replicate ops.size false) := by
  intro j o ho hj
  have hlt : j < ops.size := (Array.getElem?_eq_some_iff.1 ho).1
  simp [hlt] at hj
 have h4 := dx_ok hT h1 od ops.size (Array.replicate ops.size false) s (by simpa using h2) hsh h3 (.inl hL) h
 exact wpIn_region_any hm (dG_any (Q' := Qof C K) (fun a w hq => hq) _ _ _ h4 a _ hf hs.drew)
theorem dr (L0 : List Ent) (f : Nat) (od : Od) (hT : TabOk C.P C.T) {id : Nat} {K : Exit → Sy → Prop} {s : Sy} (hm : C.P.follows .mixedOrders = true)
 (hok : (Region.noSelect ops && Nat.ble od.len ops.size && Zb ops [f] od (Array.replicate ops.size false)) = true) (hL : Sub L0 s.L) (h : dx C ops L0 [f] od (K .normal) s) : qb8 C id ops K s := drs L0 [f] od hT hm hok hL h
end
end Go.Sx
namespace Go.Proofs.YtbgefoamhdgnaaaGreatDoor
section
def tab : Sx.Tab where
 rows := [⟨1, .fn, 1⟩, ⟨2, .int .i64, 1⟩, ⟨3, .int .i64, 1⟩, ⟨4, .bool, 1⟩, ⟨5, .int .u8, 1⟩, ⟨6, .int .u8, 1⟩, ⟨7, .st [(0, 1, false), (1, 1, false), (2, 1, false), (3, 1, false)], 4⟩, ⟨8, .st [(0, 1, false), (1, 1, false), (2, 1, false), (3, 1, false)], 4⟩, ⟨9, .str, 1⟩, ⟨10, .str, 1⟩, ⟨11, .str, 1⟩, ⟨12, .int .u64, 1⟩, ⟨13, .st [(0, 1, false), (1, 1, false)], 2⟩, ⟨14, .st [(0, 1, false), (1, 1, false)], 2⟩, ⟨15, .ptr, 1⟩, ⟨16, .ptr, 1⟩, ⟨17, .ptr, 1⟩, ⟨18, .st [(0, 1, false)], 1⟩, ⟨19, .st [(0, 1, false)], 1⟩, ⟨20, .ifc, 1⟩, ⟨21, .int .i32, 1⟩, ⟨22, .sl 39 32, 1⟩, ⟨23, .st [(0, 1, false), (1, 1, false), (2, 1, false), (3, 1, false)], 4⟩, ⟨24, .st [(0, 1, false), (1, 1, false), (2, 1, false), (3, 1, false)], 4⟩, ⟨25, .fn, 1⟩, ⟨26, .fn, 1⟩, ⟨27, .sl 50 236, 1⟩, ⟨28, .fn, 1⟩, ⟨29, .fn, 1⟩, ⟨30, .ptr, 1⟩, ⟨31, .ifc, 1⟩, ⟨32, .ifc, 1⟩, ⟨34, .fn, 1⟩, ⟨35, .arr 32 5 1 false, 32⟩, ⟨36, .arr 32 5 1 false, 32⟩, ⟨37, .fn, 1⟩, ⟨38, .fn, 1⟩, ⟨39, .arr 32 5 1 false, 32⟩, ⟨40, .arr 64 5 1 false, 64⟩, ⟨41, .arr 64 5 1 false, 64⟩, ⟨42, .st [(0, 1, false), (1, 1, false), (2, 1, false), (3, 32, true), (35, 64, true)], 99⟩, ⟨43, .st [(0, 1, false), (1, 1, false), (2, 1, false), (3, 32, true), (35, 64, true)], 99⟩, ⟨45, .fn, 1⟩, ⟨46, .st [(0, 99, true), (99, 1, false), (100, 32, true), (132, 1, false)], 133⟩, ⟨47, .st [(0, 99, true), (99, 1, false), (100, 32, true), (132, 1, false)], 133⟩, ⟨48, .sl 5 1, 1⟩, ⟨49, .st [(0, 1, false), (1, 99, true), (100, 133, true), (233, 1, false), (234, 1, false), (235, 1, false)], 236⟩, ⟨50, .st [(0, 1, false), (1, 99, true), (100, 133, true), (233, 1, false), (234, 1, false), (235, 1, false)], 236⟩, ⟨51, .fn, 1⟩, ⟨53, .fn, 1⟩, ⟨54, .sl 3 1, 1⟩, ⟨55, .fn, 1⟩, ⟨56, .sl 48 1, 1⟩, ⟨57, .fn, 1⟩, ⟨58, .int .u64, 1⟩, ⟨59, .fn, 1⟩, ⟨60, .fn, 1⟩, ⟨61, .fn, 1⟩, ⟨62, .fn, 1⟩, ⟨63, .fn, 1⟩, ⟨64, .sl 43 99, 1⟩, ⟨65, .st [(0, 32, true), (32, 1, false), (33, 1, false)], 34⟩, ⟨66, .st [(0, 32, true), (32, 1, false), (33, 1, false)], 34⟩, ⟨68, .fn, 1⟩, ⟨69, .fn, 1⟩, ⟨70, .fn, 1⟩, ⟨71, .fn, 1⟩, ⟨72, .fn, 1⟩, ⟨73, .fn, 1⟩, ⟨75, .fn, 1⟩, ⟨76, .fn, 1⟩, ⟨77, .fn, 1⟩, ⟨78, .fn, 1⟩, ⟨79, .fn, 1⟩, ⟨80, .fn, 1⟩, ⟨81, .int .i64, 1⟩, ⟨82, .fn, 1⟩, ⟨83, .fn, 1⟩, ⟨84, .fn, 1⟩, ⟨86, .fn, 1⟩, ⟨87, .map 39 9, 1⟩, ⟨88, .fn, 1⟩, ⟨90, .fn, 1⟩, ⟨91, .fn, 1⟩, ⟨92, .fn, 1⟩, ⟨93, .map 3 39, 1⟩, ⟨94, .ptr, 1⟩, ⟨95, .st [(0, 32, true), (32, 1, false), (33, 1, false), (34, 1, false)], 35⟩, ⟨96, .st [(0, 32, true), (32, 1, false), (33, 1, false), (34, 1, false)], 35⟩, ⟨98, .fn, 1⟩, ⟨99, .fn, 1⟩, ⟨100, .arr 22 3 1 false, 22⟩, ⟨101, .arr 22 3 1 false, 22⟩, ⟨102, .st [(0, 22, true), (22, 22, true), (44, 22, true), (66, 22, true)], 88⟩, ⟨103, .st [(0, 22, true), (22, 22, true), (44, 22, true), (66, 22, true)], 88⟩, ⟨104, .fn, 1⟩, ⟨105, .fn, 1⟩, ⟨106, .fn, 1⟩, ⟨107, .fn, 1⟩, ⟨108, .fn, 1⟩, ⟨109, .fn, 1⟩, ⟨110, .fn, 1⟩, ⟨111, .fn, 1⟩, ⟨112, .fn, 1⟩, ⟨113, .fn, 1⟩, ⟨114, .fn, 1⟩, ⟨115, .fn, 1⟩, ⟨116, .fn, 1⟩, ⟨117, .fn, 1⟩, ⟨119, .fn, 1⟩, ⟨120, .fn, 1⟩, ⟨121, .fn, 1⟩, ⟨123, .fn, 1⟩, ⟨124, .fn, 1⟩, ⟨125, .fn, 1⟩, ⟨126, .fn, 1⟩, ⟨127, .int .u32, 1⟩, ⟨128, .arr 8 127 1 false, 8⟩, ⟨129, .sl 131 1, 1⟩, ⟨130, .fn, 1⟩, ⟨131, .int .u64, 1⟩, ⟨132, .fn, 1⟩, ⟨133, .arr 64 127 1 false, 64⟩, ⟨134, .fn, 1⟩, ⟨135, .fn, 1⟩, ⟨136, .st [(0, 1, false), (1, 32, true), (33, 64, true)], 97⟩, ⟨137, .st [(0, 1, false), (1, 32, true), (33, 64, true)], 97⟩, ⟨138, .sl 137 97, 1⟩, ⟨139, .st [(0, 1, false), (1, 32, true), (33, 1, false), (34, 1, false), (35, 1, false), (36, 1, false), (37, 32, true), (69, 1, false)], 70⟩, ⟨140, .st [(0, 1, false), (1, 32, true), (33, 1, false), (34, 1, false), (35, 1, false), (36, 1, false), (37, 32, true), (69, 1, false)], 70⟩, ⟨141, .fn, 1⟩, ⟨142, .sl 9 1, 1⟩, ⟨143, .fn, 1⟩, ⟨144, .fn, 1⟩, ⟨145, .fn, 1⟩, ⟨146, .fn, 1⟩, ⟨147, .fn, 1⟩, ⟨148, .fn, 1⟩, ⟨149, .fn, 1⟩, ⟨150, .fn, 1⟩, ⟨152, .fn, 1⟩, ⟨153, .fn, 1⟩, ⟨154, .fn, 1⟩, ⟨155, .fn, 1⟩, ⟨156, .fn, 1⟩, ⟨157, .fn, 1⟩, ⟨158, .fn, 1⟩, ⟨159, .fn, 1⟩, ⟨160, .fn, 1⟩, ⟨161, .fn, 1⟩, ⟨162, .fn, 1⟩, ⟨163, .fn, 1⟩, ⟨164, .fn, 1⟩, ⟨165, .fn, 1⟩, ⟨166, .fn, 1⟩, ⟨167, .fn, 1⟩, ⟨168, .fn, 1⟩, ⟨169, .fn, 1⟩, ⟨170, .fn, 1⟩, ⟨171, .fn, 1⟩, ⟨172, .arr 8 131 1 false, 8⟩, ⟨173, .arr 80 131 1 false, 80⟩, ⟨174, .fn, 1⟩, ⟨175, .fn, 1⟩, ⟨176, .arr 44 3 1 false, 44⟩, ⟨177, .fn, 1⟩, ⟨178, .fn, 1⟩, ⟨179, .arr 4 131 1 false, 4⟩, ⟨180, .arr 4 131 1 false, 4⟩, ⟨181, .st [(0, 4, true), (4, 4, true), (8, 4, true), (12, 1, false)], 13⟩, ⟨182, .st [(0, 4, true), (4, 4, true), (8, 4, true), (12, 1, false)], 13⟩, ⟨184, .fn, 1⟩, ⟨185, .fn, 1⟩, ⟨186, .fn, 1⟩, ⟨187, .fn, 1⟩, ⟨188, .fn, 1⟩, ⟨189, .fn, 1⟩, ⟨190, .fn, 1⟩, ⟨191, .sl 194 1, 1⟩, ⟨193, .fn, 1⟩, ⟨194, .bool, 1⟩, ⟨195, .fn, 1⟩, ⟨196, .fn, 1⟩, ⟨197, .fn, 1⟩, ⟨198, .fn, 1⟩, ⟨199, .fn, 1⟩, ⟨200, .fn, 1⟩, ⟨201, .fn, 1⟩, ⟨202, .fn, 1⟩, ⟨203, .fn, 1⟩, ⟨204, .fn, 1⟩, ⟨205, .ptr, 1⟩, ⟨206, .arr 3 3 1 false, 3⟩, ⟨207, .arr 4 206 3 true, 12⟩, ⟨208, .sl 127 1, 1⟩, ⟨209, .st [(0, 1, false), (1, 1, false), (2, 8, true), (10, 12, true), (22, 1, false)], 23⟩, ⟨210, .st [(0, 1, false), (1, 1, false), (2, 8, true), (10, 12, true), (22, 1, false)], 23⟩, ⟨211, .fn, 1⟩, ⟨212, .fn, 1⟩, ⟨214, .fn, 1⟩, ⟨215, .fn, 1⟩, ⟨216, .fn, 1⟩, ⟨217, .sl 286 33, 1⟩, ⟨219, .fn, 1⟩, ⟨220, .fn, 1⟩, ⟨221, .fn, 1⟩, ⟨222, .st [(0, 1, false), (1, 1, false)], 2⟩, ⟨223, .st [(0, 1, false), (1, 1, false)], 2⟩, ⟨224, .fn, 1⟩, ⟨225, .fn, 1⟩, ⟨226, .ptr, 1⟩, ⟨227, .st [(0, 1, false), (1, 1, false)], 2⟩, ⟨228, .st [(0, 1, false), (1, 1, false)], 2⟩, ⟨229, .fn, 1⟩, ⟨231, .fn, 1⟩, ⟨232, .fn, 1⟩, ⟨233, .fn, 1⟩, ⟨234, .fn, 1⟩, ⟨235, .ptr, 1⟩, ⟨236, .arr 17 127 1 false, 17⟩, ⟨237, .arr 17 127 1 false, 17⟩, ⟨238, .fn, 1⟩, ⟨239, .fn, 1⟩, ⟨240, .fn, 1⟩, ⟨241, .fn, 1⟩, ⟨242, .fn, 1⟩, ⟨243, .fn, 1⟩, ⟨244, .arr 4 131 1 false, 4⟩, ⟨245, .fn, 1⟩, ⟨246, .sl 182 13, 1⟩, ⟨247, .fn, 1⟩, ⟨248, .fn, 1⟩, ⟨249, .fn, 1⟩, ⟨250, .arr 2 5 1 false, 2⟩, ⟨252, .fn, 1⟩, ⟨253, .fn, 1⟩, ⟨254, .fn, 1⟩, ⟨255, .int .i64, 1⟩, ⟨257, .fn, 1⟩, ⟨258, .fn, 1⟩, ⟨259, .fn, 1⟩, ⟨261, .fn, 1⟩, ⟨262, .fn, 1⟩, ⟨263, .fn, 1⟩, ⟨264, .arr 34 3 1 false, 34⟩, ⟨265, .fn, 1⟩, ⟨266, .fn, 1⟩, ⟨267, .fn, 1⟩, ⟨268, .fn, 1⟩, ⟨269, .fn, 1⟩, ⟨270, .fn, 1⟩, ⟨272, .fn, 1⟩, ⟨273, .fn, 1⟩, ⟨274, .fn, 1⟩, ⟨275, .sl 278 5, 1⟩, ⟨276, .sl 373 6, 1⟩, ⟨277, .st [(0, 1, false), (1, 1, false), (2, 1, false), (3, 1, false), (4, 1, false)], 5⟩, ⟨278, .st [(0, 1, false), (1, 1, false), (2, 1, false), (3, 1, false), (4, 1, false)], 5⟩, ⟨280, .fn, 1⟩, ⟨281, .ptr, 1⟩, ⟨282, .st [(0, 5, true), (5, 1, false), (6, 1, false)], 7⟩, ⟨283, .st [(0, 5, true), (5, 1, false), (6, 1, false)], 7⟩, ⟨284, .fn, 1⟩, ⟨285, .st [(0, 1, false), (1, 32, true)], 33⟩, ⟨286, .st [(0, 1, false), (1, 32, true)], 33⟩, ⟨288, .fn, 1⟩, ⟨289, .fn, 1⟩, ⟨290, .fn, 1⟩, ⟨291, .fn, 1⟩, ⟨292, .ptr, 1⟩, ⟨293, .fn, 1⟩, ⟨295, .fn, 1⟩, ⟨296, .fn, 1⟩, ⟨297, .fn, 1⟩, ⟨298, .fn, 1⟩, ⟨299, .fn, 1⟩, ⟨300, .fn, 1⟩, ⟨301, .fn, 1⟩, ⟨302, .fn, 1⟩, ⟨303, .fn, 1⟩, ⟨305, .fn, 1⟩, ⟨306, .fn, 1⟩, ⟨309, .int .u64, 1⟩, ⟨313, .ptr, 1⟩, ⟨314, .fn, 1⟩, ⟨315, .fn, 1⟩, ⟨319, .ptr, 1⟩, ⟨321, .st [(0, 1, false), (1, 1, false), (2, 1, false)], 3⟩, ⟨322, .fn, 1⟩, ⟨327, .arr 24 5 1 false, 24⟩, ⟨331, .up, 1⟩, ⟨334, .fn, 1⟩, ⟨336, .fn, 1⟩, ⟨338, .fn, 1⟩, ⟨339, .fn, 1⟩, ⟨340, .fn, 1⟩, ⟨342, .ptr, 1⟩, ⟨344, .st [(0, 1, false), (1, 1, false), (2, 8, true), (10, 12, true), (22, 1, false)], 23⟩, ⟨346, .fn, 1⟩, ⟨347, .ptr, 1⟩, ⟨351, .fn, 1⟩, ⟨352, .fn, 1⟩, ⟨353, .fn, 1⟩, ⟨354, .fn, 1⟩, ⟨358, .arr 20 131 1 false, 20⟩, ⟨359, .arr 65 5 1 false, 65⟩, ⟨360, .fn, 1⟩, ⟨366, .arr 256 4 1 false, 256⟩, ⟨370, .ptr, 1⟩, ⟨371, .fn, 1⟩, ⟨373, .st [(0, 1, false), (1, 5, true)], 6⟩, ⟨380, .map 9 4, 1⟩, ⟨383, .arr 256 5 1 false, 256⟩, ⟨385, .st [(0, 1, false), (1, 1, false)], 2⟩, ⟨386, .arr 16 385 2 true, 32⟩, ⟨394, .int .u8, 1⟩]
 zero := [(3, #[.int .i64 0]), (4, #[.bool false]), (36, (List.replicate 32 (.int .u8 0)).toArray), (39, (List.replicate 32 (.int .u8 0)).toArray), (41, (List.replicate 64 (.int .u8 0)).toArray), (43, #[.string { data := #[] }, .int .i64 0, .int .i64 0, .int .u8 0, .int .u8 0, .int .u8 0, .int .u8 0, .int .u8 0, .int .u8 0, .int .u8 0, .int .u8 0, .int .u8 0, .int .u8 0, .int .u8 0, .int .u8 0, .int .u8 0, .int .u8 0, .int .u8 0, .int .u8 0, .int .u8 0, .int .u8 0, .int .u8 0, .int .u8 0, .int .u8 0, .int .u8 0, .int .u8 0, .int .u8 0, .int .u8 0, .int .u8 0, .int .u8 0, .int .u8 0, .int .u8 0, .int .u8 0, .int .u8 0, .int .u8 0, .int .u8 0, .int .u8 0, .int .u8 0, .int .u8 0, .int .u8 0, .int .u8 0, .int .u8 0, .int .u8 0, .int .u8 0, .int .u8 0, .int .u8 0, .int .u8 0, .int .u8 0, .int .u8 0, .int .u8 0, .int .u8 0, .int .u8 0, .int .u8 0, .int .u8 0, .int .u8 0, .int .u8 0, .int .u8 0, .int .u8 0, .int .u8 0, .int .u8 0, .int .u8 0, .int .u8 0, .int .u8 0, .int .u8 0, .int .u8 0, .int .u8 0, .int .u8 0, .int .u8 0, .int .u8 0, .int .u8 0, .int .u8 0, .int .u8 0, .int .u8 0, .int .u8 0, .int .u8 0, .int .u8 0, .int .u8 0, .int .u8 0, .int .u8 0, .int .u8 0, .int .u8 0, .int .u8 0, .int .u8 0, .int .u8 0, .int .u8 0, .int .u8 0, .int .u8 0, .int .u8 0, .int .u8 0, .int .u8 0, .int .u8 0, .int .u8 0, .int .u8 0, .int .u8 0, .int .u8 0, .int .u8 0, .int .u8 0, .int .u8 0, .int .u8 0]), (47, #[.string { data := #[] }, .int .i64 0, .int .i64 0, .int .u8 0, .int .u8 0, .int .u8 0, .int .u8 0, .int .u8 0, .int .u8 0, .int .u8 0, .int .u8 0, .int .u8 0, .int .u8 0, .int .u8 0, .int .u8 0, .int .u8 0, .int .u8 0, .int .u8 0, .int .u8 0, .int .u8 0, .int .u8 0, .int .u8 0, .int .u8 0, .int .u8 0, .int .u8 0, .int .u8 0, .int .u8 0, .int .u8 0, .int .u8 0, .int .u8 0, .int .u8 0, .int .u8 0, .int .u8 0, .int .u8 0, .int .u8 0, .int .u8 0, .int .u8 0, .int .u8 0, .int .u8 0, .int .u8 0, .int .u8 0, .int .u8 0, .int .u8 0, .int .u8 0, .int .u8 0, .int .u8 0, .int .u8 0, .int .u8 0, .int .u8 0, .int .u8 0, .int .u8 0, .int .u8 0, .int .u8 0, .int .u8 0, .int .u8 0, .int .u8 0, .int .u8 0, .int .u8 0, .int .u8 0, .int .u8 0, .int .u8 0, .int .u8 0, .int .u8 0, .int .u8 0, .int .u8 0, .int .u8 0, .int .u8 0, .int .u8 0, .int .u8 0, .int .u8 0, .int .u8 0, .int .u8 0, .int .u8 0, .int .u8 0, .int .u8 0, .int .u8 0, .int .u8 0, .int .u8 0, .int .u8 0, .int .u8 0, .int .u8 0, .int .u8 0, .int .u8 0, .int .u8 0, .int .u8 0, .int .u8 0, .int .u8 0, .int .u8 0, .int .u8 0, .int .u8 0, .int .u8 0, .int .u8 0, .int .u8 0, .int .u8 0, .int .u8 0, .int .u8 0, .int .u8 0, .int .u8 0, .int .u8 0, .int .i64 0, .int .u8 0, .int .u8 0, .int .u8 0, .int .u8 0, .int .u8 0, .int .u8 0, .int .u8 0, .int .u8 0, .int .u8 0, .int .u8 0, .int .u8 0, .int .u8 0, .int .u8 0, .int .u8 0, .int .u8 0, .int .u8 0, .int .u8 0, .int .u8 0, .int .u8 0, .int .u8 0, .int .u8 0, .int .u8 0, .int .u8 0, .int .u8 0, .int .u8 0, .int .u8 0, .int .u8 0, .int .u8 0, .int .u8 0, .int .u8 0, .int .u8 0, .int .u8 0, .slice none 0 0]), (50, #[.int .i64 0, .string { data := #[] }, .int .i64 0, .int .i64 0, .int .u8 0, .int .u8 0, .int .u8 0, .int .u8 0, .int .u8 0, .int .u8 0, .int .u8 0, .int .u8 0, .int .u8 0, .int .u8 0, .int .u8 0, .int .u8 0, .int .u8 0, .int .u8 0, .int .u8 0, .int .u8 0, .int .u8 0, .int .u8 0, .int .u8 0, .int .u8 0, .int .u8 0, .int .u8 0, .int .u8 0, .int .u8 0, .int .u8 0, .int .u8 0, .int .u8 0, .int .u8 0, .int .u8 0, .int .u8 0, .int .u8 0, .int .u8 0, .int .u8 0, .int .u8 0, .int .u8 0, .int .u8 0, .int .u8 0, .int .u8 0, .int .u8 0, .int .u8 0, .int .u8 0, .int .u8 0, .int .u8 0, .int .u8 0, .int .u8 0, .int .u8 0, .int .u8 0, .int .u8 0, .int .u8 0, .int .u8 0, .int .u8 0, .int .u8 0, .int .u8 0, .int .u8 0, .int .u8 0, .int .u8 0, .int .u8 0, .int .u8 0, .int .u8 0, .int .u8 0, .int .u8 0, .int .u8 0, .int .u8 0, .int .u8 0, .int .u8 0, .int .u8 0, .int .u8 0, .int .u8 0, .int .u8 0, .int .u8 0, .int .u8 0, .int .u8 0, .int .u8 0, .int .u8 0, .int .u8 0, .int .u8 0, .int .u8 0, .int .u8 0, .int .u8 0, .int .u8 0, .int .u8 0, .int .u8 0, .int .u8 0, .int .u8 0, .int .u8 0, .int .u8 0, .int .u8 0, .int .u8 0, .int .u8 0, .int .u8 0, .int .u8 0, .int .u8 0, .int .u8 0, .int .u8 0, .int .u8 0, .int .u8 0, .string { data := #[] }, .int .i64 0, .int .i64 0, .int .u8 0, .int .u8 0, .int .u8 0, .int .u8 0, .int .u8 0, .int .u8 0, .int .u8 0, .int .u8 0, .int .u8 0, .int .u8 0, .int .u8 0, .int .u8 0, .int .u8 0, .int .u8 0, .int .u8 0, .int .u8 0, .int .u8 0, .int .u8 0, .int .u8 0, .int .u8 0, .int .u8 0, .int .u8 0, .int .u8 0, .int .u8 0, .int .u8 0, .int .u8 0, .int .u8 0, .int .u8 0, .int .u8 0, .int .u8 0, .int .u8 0, .int .u8 0, .int .u8 0, .int .u8 0, .int .u8 0, .int .u8 0, .int .u8 0, .int .u8 0, .int .u8 0, .int .u8 0, .int .u8 0, .int .u8 0, .int .u8 0, .int .u8 0, .int .u8 0, .int .u8 0, .int .u8 0, .int .u8 0, .int .u8 0, .int .u8 0, .int .u8 0, .int .u8 0, .int .u8 0, .int .u8 0, .int .u8 0, .int .u8 0, .int .u8 0, .int .u8 0, .int .u8 0, .int .u8 0, .int .u8 0, .int .u8 0, .int .u8 0, .int .u8 0, .int .u8 0, .int .u8 0, .int .u8 0, .int .u8 0, .int .u8 0, .int .u8 0, .int .u8 0, .int .u8 0, .int .u8 0, .int .u8 0, .int .u8 0, .int .u8 0, .int .u8 0, .int .u8 0, .int .u8 0, .int .u8 0, .int .u8 0, .int .u8 0, .int .u8 0, .int .u8 0, .int .u8 0, .int .u8 0, .int .u8 0, .int .u8 0, .int .u8 0, .int .u8 0, .int .u8 0, .int .u8 0, .int .u8 0, .int .u8 0, .int .u8 0, .int .u8 0, .int .i64 0, .int .u8 0, .int .u8 0, .int .u8 0, .int .u8 0, .int .u8 0, .int .u8 0, .int .u8 0, .int .u8 0, .int .u8 0, .int .u8 0, .int .u8 0, .int .u8 0, .int .u8 0, .int .u8 0, .int .u8 0, .int .u8 0, .int .u8 0, .int .u8 0, .int .u8 0, .int .u8 0, .int .u8 0, .int .u8 0, .int .u8 0, .int .u8 0, .int .u8 0, .int .u8 0, .int .u8 0, .int .u8 0, .int .u8 0, .int .u8 0, .int .u8 0, .int .u8 0, .slice none 0 0, .slice none 0 0, .slice none 0 0, .int .i64 0]), (66, #[.int .u8 0, .int .u8 0, .int .u8 0, .int .u8 0, .int .u8 0, .int .u8 0, .int .u8 0, .int .u8 0, .int .u8 0, .int .u8 0, .int .u8 0, .int .u8 0, .int .u8 0, .int .u8 0, .int .u8 0, .int .u8 0, .int .u8 0, .int .u8 0, .int .u8 0, .int .u8 0, .int .u8 0, .int .u8 0, .int .u8 0, .int .u8 0, .int .u8 0, .int .u8 0, .int .u8 0, .int .u8 0, .int .u8 0, .int .u8 0, .int .u8 0, .int .u8 0, .string { data := #[] }, .slice none 0 0]), (101, (List.replicate 22 (.int .i64 0)).toArray), (103, (List.replicate 88 (.int .i64 0)).toArray), (128, #[.int .u32 0, .int .u32 0, .int .u32 0, .int .u32 0, .int .u32 0, .int .u32 0, .int .u32 0, .int .u32 0]), (129, #[.slice none 0 0]), (133, (List.replicate 64 (.int .u32 0)).toArray), (137, #[.string { data := #[] }, .int .u8 0, .int .u8 0, .int .u8 0, .int .u8 0, .int .u8 0, .int .u8 0, .int .u8 0, .int .u8 0, .int .u8 0, .int .u8 0, .int .u8 0, .int .u8 0, .int .u8 0, .int .u8 0, .int .u8 0, .int .u8 0, .int .u8 0, .int .u8 0, .int .u8 0, .int .u8 0, .int .u8 0, .int .u8 0, .int .u8 0, .int .u8 0, .int .u8 0, .int .u8 0, .int .u8 0, .int .u8 0, .int .u8 0, .int .u8 0, .int .u8 0, .int .u8 0, .int .u8 0, .int .u8 0, .int .u8 0, .int .u8 0, .int .u8 0, .int .u8 0, .int .u8 0, .int .u8 0, .int .u8 0, .int .u8 0, .int .u8 0, .int .u8 0, .int .u8 0, .int .u8 0, .int .u8 0, .int .u8 0, .int .u8 0, .int .u8 0, .int .u8 0, .int .u8 0, .int .u8 0, .int .u8 0, .int .u8 0, .int .u8 0, .int .u8 0, .int .u8 0, .int .u8 0, .int .u8 0, .int .u8 0, .int .u8 0, .int .u8 0, .int .u8 0, .int .u8 0, .int .u8 0, .int .u8 0, .int .u8 0, .int .u8 0, .int .u8 0, .int .u8 0, .int .u8 0, .int .u8 0, .int .u8 0, .int .u8 0, .int .u8 0, .int .u8 0, .int .u8 0, .int .u8 0, .int .u8 0, .int .u8 0, .int .u8 0, .int .u8 0, .int .u8 0, .int .u8 0, .int .u8 0, .int .u8 0, .int .u8 0, .int .u8 0, .int .u8 0, .int .u8 0, .int .u8 0, .int .u8 0, .int .u8 0, .int .u8 0, .int .u8 0]), (140, #[.int .i64 0, .int .u8 0, .int .u8 0, .int .u8 0, .int .u8 0, .int .u8 0, .int .u8 0, .int .u8 0, .int .u8 0, .int .u8 0, .int .u8 0, .int .u8 0, .int .u8 0, .int .u8 0, .int .u8 0, .int .u8 0, .int .u8 0, .int .u8 0, .int .u8 0, .int .u8 0, .int .u8 0, .int .u8 0, .int .u8 0, .int .u8 0, .int .u8 0, .int .u8 0, .int .u8 0, .int .u8 0, .int .u8 0, .int .u8 0, .int .u8 0, .int .u8 0, .int .u8 0, .string { data := #[] }, .slice none 0 0, .int .i64 0, .string { data := #[] }, .int .u8 0, .int .u8 0, .int .u8 0, .int .u8 0, .int .u8 0, .int .u8 0, .int .u8 0, .int .u8 0, .int .u8 0, .int .u8 0, .int .u8 0, .int .u8 0, .int .u8 0, .int .u8 0, .int .u8 0, .int .u8 0, .int .u8 0, .int .u8 0, .int .u8 0, .int .u8 0, .int .u8 0, .int .u8 0, .int .u8 0, .int .u8 0, .int .u8 0, .int .u8 0, .int .u8 0, .int .u8 0, .int .u8 0, .int .u8 0, .int .u8 0, .int .u8 0, .slice none 0 0]), (172, #[.int .u64 0, .int .u64 0, .int .u64 0, .int .u64 0, .int .u64 0, .int .u64 0, .int .u64 0, .int .u64 0]), (173, (List.replicate 80 (.int .u64 0)).toArray), (176, (List.replicate 44 (.int .i64 0)).toArray), (180, #[.int .u64 0, .int .u64 0, .int .u64 0, .int .u64 0]), (182, #[.int .u64 0, .int .u64 0, .int .u64 0, .int .u64 0, .int .u64 0, .int .u64 0, .int .u64 0, .int .u64 0, .int .u64 0, .int .u64 0, .int .u64 0, .int .u64 0, .bool false]), (206, #[.int .i64 0, .int .i64 0, .int .i64 0]), (208, #[.slice none 0 0]), (223, #[.string { data := #[] }, .int .i64 0]), (228, #[.pointer none, .slice none 0 0]), (235, #[.pointer none]), (236, (List.replicate 17 (.int .u32 0)).toArray), (243, #[.nilFunc]), (246, #[.slice none 0 0]), (264, (List.replicate 34 (.int .i64 0)).toArray), (278, #[.int .i64 0, .int .i64 0, .string { data := #[] }, .slice none 0 0, .slice none 0 0]), (286, #[.string { data := #[] }, .int .u8 0, .int .u8 0, .int .u8 0, .int .u8 0, .int .u8 0, .int .u8 0, .int .u8 0, .int .u8 0, .int .u8 0, .int .u8 0, .int .u8 0, .int .u8 0, .int .u8 0, .int .u8 0, .int .u8 0, .int .u8 0, .int .u8 0, .int .u8 0, .int .u8 0, .int .u8 0, .int .u8 0, .int .u8 0, .int .u8 0, .int .u8 0, .int .u8 0, .int .u8 0, .int .u8 0, .int .u8 0, .int .u8 0, .int .u8 0, .int .u8 0, .int .u8 0]), (309, #[.int .u64 0]), (327, (List.replicate 24 (.int .u8 0)).toArray), (359, (List.replicate 65 (.int .u8 0)).toArray), (366, (List.replicate 256 (.bool false)).toArray), (373, #[.string { data := #[] }, .int .i64 0, .int .i64 0, .string { data := #[] }, .slice none 0 0, .slice none 0 0]), (380, #[.map none]), (385, #[.int .u8 0, .int .u8 0])]
 fns := 334
 ext := [0, 1, 224, 245, 246, 248, 265, 266, 308, 309, 310, 311, 312, 313, 314, 315, 316, 317, 318, 319, 320, 321, 322, 323, 324, 325, 326, 327, 328, 329, 330, 331, 332]
theorem qc : Sx.TabOk Tryz.prog tab := ⟨by kernel_rfl, by kernel_rfl, ⟨by kernel_rfl, by kernel_rfl, by kernel_rfl, by kernel_rfl, by kernel_rfl, by kernel_rfl, by kernel_rfl, by kernel_rfl, by kernel_rfl, by kernel_rfl, by kernel_rfl, by kernel_rfl, by kernel_rfl, by kernel_rfl, by kernel_rfl, by kernel_rfl, by kernel_rfl, by kernel_rfl, by kernel_rfl, by kernel_rfl, by kernel_rfl, by kernel_rfl, by kernel_rfl, by kernel_rfl, by kernel_rfl, by kernel_rfl, by kernel_rfl, by kernel_rfl, by kernel_rfl, by kernel_rfl, by kernel_rfl, by kernel_rfl, by kernel_rfl, by kernel_rfl, by kernel_rfl, by kernel_rfl, by kernel_rfl, by kernel_rfl, by kernel_rfl, trivial⟩⟩
theorem qe : Tryz.prog.follows .mixedOrders = true := by kernel_rfl
end
end Go.Proofs.YtbgefoamhdgnaaaGreatDoor
namespace Go.Sx
section
open Go Go.RowKit
variable {C : Cx} {L : List Ent}
theorem ld1 (k : Nat) {b o : Nat} {c : Array Value} {t : TypeId} {fz : Nat × Nat} {ro : Bool} {v : Value} {next : Value → Prop} (hk : L[k]? = some ⟨b, some (.cells c t fz), ro, none⟩) (hc : c[o]? = some v) (go : next v) : Ld1 C L b o next :=
 ⟨v, fun w hs => (hs.cell hk o).trans hc, go⟩
theorem qdE {w : World} {b o : Nat} {c d : Array Value} (h : ∀ i, w.cell? ⟨b, i, none⟩ = c[i]?) (hx : c.extract o (o + d.size) = d) : w.rangeAt b o d.toList := by
 intro j v hv
 have hj : j < d.size := by have := (List.getElem?_eq_some_iff.1 hv).1; simpa using this
 have hd : d[j]? = some v := by simpa using hv
 rw [h, ← hd, ← hx]
 simp only [Array.getElem?_extract]
 split
 · rfl
 · rename_i hn
   have hs : (c.extract o (o + d.size)).size = d.size := congrArg Array.size hx
   simp at hs
   omega
theorem ldP (k : Nat) {b o n : Nat} {c d : Array Value} {t : TypeId} {fz : Nat × Nat} {ro : Bool} {next : Value → Prop} (hk : L[k]? = some ⟨b, some (.cells c t fz), ro, none⟩) (hn : d.size = n) (hx : c.extract o (o + n) = d) (go : next (.agg d)) : LdN C L b o n next :=
 ⟨d, hn, fun w hs => qdE (hs.cell hk) (by rw [hn]; exact hx), go⟩
theorem ldN (k : Nat) {b n : Nat} {c : Array Value} {t : TypeId} {fz : Nat × Nat} {ro : Bool} {next : Value → Prop} (hk : L[k]? = some ⟨b, some (.cells c t fz), ro, none⟩) (hn : c.size = n) (go : next (.agg c)) : LdN C L b 0 n next :=
 ⟨c, hn, fun w hs => qdE (hs.cell hk) (by simp), go⟩
theorem s1 (k : Nat) {b o : Nat} {c : Array Value} {t t' : TypeId} {v : Value} {next : List Ent → Prop} (hk : L[k]? = some (cl b c t')) (ho : o < c.size) (go : next (L.set k (cl b (c.setIfInBounds o v) t')))
 (hz : zn C.P t 1 = true := by kernel_rfl) (h1 : v.oneCell' = true := by rfl) (hv : v.cells = #[v] := by rfl) : StP C t L b o v next := by
 refine ⟨_, fun w hs => ⟨_, ?_, hs.setCell hk o v⟩, go⟩
 have hst := run_storeCells_cells (P := C.P) b o [v] 0 w (fun j hj => by
  obtain rfl : j = 0 := by simpa using hj
  rw [hs.cell hk]; simp [ho]) (fun j hj => by
  obtain rfl : j = 0 := by simpa using hj
  exact frozen_of_row w b o c t' (hs.nth hk)) (by simpa using h1)
 have h3 : (storeCells ⟨b, o, none⟩ [v]).run C.P w = .ok () (w.setCell ⟨b, o, none⟩ v) := hst
 simp [storeVar, Qi (zN hz), hv, h3]
theorem sN (k : Nat) {b : Nat} {c d : Array Value} {t t' : TypeId} {next : List Ent → Prop} (hk : L[k]? = some (cl b c t')) (hd : d.size = c.size) (h1 : d.toList.all (·.oneCell') = true) (go : next (L.set k (cl b d t')))
 (hz : zn C.P t d.size = true) : StP C t L b 0 (.agg d) next := by
 refine ⟨_, fun w hs => ⟨_, ?_, hs.setRow hk d⟩, go⟩
 have h1' : ∀ u ∈ d.toList, u.oneCell' = true := fun u hu => List.all_eq_true.1 h1 u hu
 have h := run_storeCells_at C.P b 0 t' d.toList 0 c w (hs.nth hk) (by simp; omega) h1'
 have e : (c.toList.take 0 ++ d.toList ++ c.toList.drop (0 + d.toList.length)).toArray = d := by
  apply Array.ext'
  have : List.drop d.size c.toList = [] := by simp; omega
  simp [this]
 simp only [Nat.add_zero, e] at h
 simp [storeVar, Qi (zN hz), Value.cells, h]
theorem sP (k : Nat) {b o : Nat} {c d e : Array Value} {t t' : TypeId} {next : List Ent → Prop} (hk : L[k]? = some (cl b c t')) (hd : o + d.size ≤ c.size) (h1 : d.toList.all (·.oneCell') = true) (he : (c.toList.take o ++ d.toList ++ c.toList.drop (o + d.size)).toArray = e) (go : next (L.set k (cl b e t')))
 (hz : zn C.P t d.size = true) : StP C t L b o (.agg d) next := by
 subst he
 refine ⟨_, fun w hs => ⟨_, ?_, hs.setRow hk _⟩, go⟩
 have h1' : ∀ u ∈ d.toList, u.oneCell' = true := fun u hu => List.all_eq_true.1 h1 u hu
 have h := run_storeCells_at C.P b o t' d.toList 0 c w (hs.nth hk) (by simpa using hd) h1'
 simp only [Nat.add_zero] at h
 simp [storeVar, Qi (zN hz), Value.cells, h]
theorem cv {g : FuncId} {vs : List Value} {v : Value} {next : Value → List Ent → Prop} (h : ∀ w, Calls C.P g vs.toArray w fun e w' => e = .returned v ∧ Below w.heap.size w w') (go : next v L) : zJ C g vs L next :=
 ⟨fun w hs => (h w).mono fun e w' ⟨he, hb⟩ => ⟨v, L, he, hs.call hb, go⟩⟩
theorem cvs {g : FuncId} {vs : List Value} {v : Value} {next : Value → List Ent → Prop} (h : ∀ w, St C.M C.B w L → Calls C.P g vs.toArray w fun e w' => e = .returned v ∧ Below w.heap.size w w') (go : next v L) : zJ C g vs L next :=
 ⟨fun w hs => (h w hs).mono fun e w' ⟨he, hb⟩ => ⟨v, L, he, hs.call hb, go⟩⟩
theorem cz {g : FuncId} {vs : List Value} {v : Value} {next : Value → Prop} (h : ∀ w, Calls C.P g vs.toArray w fun e w' => e = .returned v ∧ Below w.heap.size w w') (go : next v) : C0P C g vs L next := ⟨v, fun w _ => h w, go⟩
theorem czs {g : FuncId} {vs : List Value} {v : Value} {next : Value → Prop} (h : ∀ w, St C.M C.B w L → Calls C.P g vs.toArray w fun e w' => e = .returned v ∧ Below w.heap.size w w') (go : next v) : C0P C g vs L next := ⟨v, h, go⟩
theorem cn {g : FuncId} {vs : List Value} {v : Nat → Value} {o : Obj} {next : Value → List Ent → Prop} (h : ∀ w, St C.M C.B w L → Calls C.P g vs.toArray w fun e w' => ∃ b, e = .returned (v b) ∧ w.heap.size ≤ b ∧ w'.heap[b]? = some o ∧ Below w.heap.size w w') (go : ∀ b, next (v b) (L ++ [⟨b, some o, false, none⟩])) : zJ C g vs L next :=
 ⟨fun w hs => (h w hs).mono fun e w' ⟨b, he, h1, h2, hb⟩ => ⟨v b, _, he, hs.add hb h1 h2, go b⟩⟩
theorem cg {g : FuncId} {vs : List Value} {R : World → Ending → World → Prop} {next : Value → List Ent → Prop} (h : ∀ w, St C.M C.B w L → Calls C.P g vs.toArray w (R w)) (go : ∀ w e w', St C.M C.B w L → R w e w' → ∃ v L', e = .returned v ∧ St C.M C.B w' L' ∧ next v L') : zJ C g vs L next :=
 ⟨fun w hs => (h w hs).mono fun e w' hr => go w e w' hs hr⟩
theorem ct {b : Bool} {p q : Prop} (h : b = true) (go : p) : qcZ b p q := ⟨fun _ => go, fun h' => by rw [h] at h'; cases h'⟩
theorem cf {b : Bool} {p q : Prop} (h : b = false) (go : q) : qcZ b p q := ⟨fun h' => (by rw [h] at h'; cases h'), fun _ => go⟩
theorem cd {a : Prop} [Decidable a] {p q : Prop} (t : a → p) (f : ¬ a → q) : qcZ (decide a) p q := ⟨fun h => t (of_decide_eq_true h), fun h => f (of_decide_eq_false h)⟩
theorem cq {x y : Int} {p q : Prop} (t : x = y → p) (f : x ≠ y → q) : qcZ (x == y) p q := ⟨fun h => t (by simpa using h), fun h => f (by simpa using h)⟩
theorem cne {x y : Int} {p q : Prop} (t : x ≠ y → p) (f : x = y → q) : qcZ (x != y) p q := ⟨fun h => t (by simpa using h), fun h => f (by simpa using h)⟩
theorem qj {P : Program} {T : Tab} (hT : TabOk P T) {g : FuncId} {fn : Func} {c : Code} (hf : P.funcs[g]? = some fn) (hb : fn.body = some c) {N : Nat} (hN : fn.ntmps = N) {vs : List Value} (hle : Nat.ble vs.length N = true) {w : World} {L : List Ent}
 {v0 : Value} (hs : St [] w w L) (h : cx ⟨P, T, N, [], w, none⟩ c (retK ⟨P, T, N, [], w, none⟩ fn (fun v w' => v = v0 ∧ Below w.heap.size w w')) ⟨par 0 vs, L, []⟩) : Calls P g vs.toArray w fun e w' => e = .returned v0 ∧ Below w.heap.size w w' :=
 (enter hT hf hb hN hle hs h).mono fun e w' ⟨v, he, hv, hb⟩ => ⟨by rw [he, hv], hb⟩
theorem rt {P : Program} {T : Tab} {N : Nat} {w : World} {v0 v : Value} {L : List Ent} (hv : v = v0) : RetP ⟨P, T, N, [], w, none⟩ (fun v w' => v = v0 ∧ Below w.heap.size w w') v L := ⟨fun w' hs => ⟨hv, hs.below⟩⟩
theorem St.reads1 {w : World} {b : Nat} {c : Array Value} {t : TypeId} (h : w.heap[b]? = some (.cells c t (0, 0))) : St [] w w [cr b c t] :=
 St.from w [] _ (fun e he => by obtain rfl : e = cr b c t := by simpa using he
                                exact ⟨by simpa using h, fun k hk => by simp at hk⟩) (by simp)
end
end Go.Sx
namespace Go.Proofs.YtbgefoamhdgnaaaGreatDoor
section
open Go.RowKit Go.Sx
def shp (tb : Nat) : Array Value := #[.int .i64 64, .slice (some ⟨tb, 0, none⟩) 80 80, .int .u64 7640891576956012808, .int .u64 13503953896175478587, .int .u64 4354685564936845355, .int .u64 11912009170470909681, .int .u64 5840696475078001361, .int .u64 11170449401992604703, .int .u64 2270897969802886507, .int .u64 6620516959819538809, .int .i64 28, .int .i64 34, .int .i64 39, .int .i64 14, .int .i64 18, .int .i64 41, .int .i64 1, .int .i64 8, .int .i64 7, .int .i64 19, .int .i64 61, .int .i64 6, .int .i64 16]
def trn (x n : Int) : Int := Qz .or .u64 (x.fdiv (2 ^ (min n.toNat IntKind.u64.bits))) (x * 2 ^ (min (64 - n).toNat IntKind.u64.bits) % 18446744073709551616)
theorem zx (b : Nat) (c : Array Value) (t : TypeId) (hc : c[0]? = some (.int .i64 64)) (x n : Int) (h0 : 0 ≤ n) (h1 : n ≤ 64) (w : World) (hw : w.heap[b]? = some (.cells c t (0, 0))) :
 Calls Tryz.prog 301 ([.pointer (some ⟨b, 0, none⟩), .int .u64 x, .int .i64 n] : List Value).toArray w fun e w' => e = .returned (.int .u64 (trn x n)) ∧ Below w.heap.size w w' := by
 refine qj qc Tryz.func301 rfl Tryz.ntmps301 rfl (St.reads1 hw) ?_
 refine dr [cr b c t] 99 (.t 0 (.t 1 (.t 2 (.t 3 (.t 4 (.t 5 (.t 6 (.t 7 (.t 8 (.t 9 (.t 10 (.t 11 (.t 12 .nil))))))))))))) qc qe (by kernel_rfl) (by repeat' constructor) ?_
 refine ⟨h0, ?_⟩
 refine ld1 0 rfl hc ?_
 refine .same (by simp only [mn]; omega) (by simp only [mx]; omega) ?_
 refine ⟨by omega, .mod ?_⟩
 exact rt rfl
def qbo (x a b c : Int) (s : Bool) : Int := Qz .xor .u64 (Qz .xor .u64 (trn x a) (trn x b)) (if s then x.fdiv (2 ^ (min c.toNat IntKind.u64.bits)) else trn x c)
theorem qd1 (b tb : Nat) (x : Int) (w : World) (hw : w.heap[b]? = some (.cells (shp tb) 344 (0, 0))) :
 Calls Tryz.prog 290 ([.pointer (some ⟨b, 0, none⟩), .int .u64 x, .int .i64 0] : List Value).toArray w fun e w' => e = .returned (.int .u64 (qbo x 28 34 39 false)) ∧ Below w.heap.size w w' := by
 have ht := fun (n : Int) h0 h1 w (h : w.heap[b]? = some (.cells (shp tb) 344 (0, 0))) => zx b (shp tb) 344 rfl x n h0 h1 w h
 refine qj qc Tryz.func290 rfl Tryz.ntmps290 rfl (St.reads1 hw) ?_
 refine ⟨by decide, by decide, ?_⟩
 refine ldP 0 rfl (d := #[.int .i64 28, .int .i64 34, .int .i64 39]) rfl rfl ?_
 intro b1
 refine sN 1 rfl rfl rfl ?_ (by kernel_rfl)
 refine ⟨by decide, by decide, ?_⟩
 refine ld1 1 rfl rfl ?_
 refine cvs (fun w hs => ht _ (by decide) (by decide) w (hs.nth (k := 0) rfl)) ?_
 refine cf (by decide) ?_
 refine dr [cr b (shp tb) 344, cl b1 #[.int .i64 28, .int .i64 34, .int .i64 39] 206] 99 (.t 0 (.t 1 (.t 2 (.t 3 (.t 4 (.t 5 (.t 6 (.t 7 (.t 8 (.t 9 (.t 10 (.t 11 (.t 12 (.t 13 .nil)))))))))))))) qc qe (by kernel_rfl) (by repeat' constructor) ?_
 refine ⟨by decide, by decide, ?_⟩
 refine ld1 1 rfl rfl ?_
 refine czs (fun w hs => ht _ (by decide) (by decide) w (hs.nth (k := 0) rfl)) ?_
 refine ⟨by decide, by decide, ?_⟩
 refine ld1 1 rfl rfl ?_
 refine czs (fun w hs => ht _ (by decide) (by decide) w (hs.nth (k := 0) rfl)) ?_
 exact rt rfl
theorem qd0 (b tb : Nat) (x : Int) (w : World) (hw : w.heap[b]? = some (.cells (shp tb) 344 (0, 0))) :
 Calls Tryz.prog 290 ([.pointer (some ⟨b, 0, none⟩), .int .u64 x, .int .i64 1] : List Value).toArray w fun e w' => e = .returned (.int .u64 (qbo x 14 18 41 false)) ∧ Below w.heap.size w w' := by
 have ht := fun (n : Int) h0 h1 w (h : w.heap[b]? = some (.cells (shp tb) 344 (0, 0))) => zx b (shp tb) 344 rfl x n h0 h1 w h
 refine qj qc Tryz.func290 rfl Tryz.ntmps290 rfl (St.reads1 hw) ?_
 refine ⟨by decide, by decide, ?_⟩
 refine ldP 0 rfl (d := #[.int .i64 14, .int .i64 18, .int .i64 41]) rfl rfl ?_
 intro b1
 refine sN 1 rfl rfl rfl ?_ (by kernel_rfl)
 refine ⟨by decide, by decide, ?_⟩
 refine ld1 1 rfl rfl ?_
 refine cvs (fun w hs => ht _ (by decide) (by decide) w (hs.nth (k := 0) rfl)) ?_
 refine cf (by decide) ?_
 refine dr [cr b (shp tb) 344, cl b1 #[.int .i64 14, .int .i64 18, .int .i64 41] 206] 99 (.t 0 (.t 1 (.t 2 (.t 3 (.t 4 (.t 5 (.t 6 (.t 7 (.t 8 (.t 9 (.t 10 (.t 11 (.t 12 (.t 13 .nil)))))))))))))) qc qe (by kernel_rfl) (by repeat' constructor) ?_
 refine ⟨by decide, by decide, ?_⟩
 refine ld1 1 rfl rfl ?_
 refine czs (fun w hs => ht _ (by decide) (by decide) w (hs.nth (k := 0) rfl)) ?_
 refine ⟨by decide, by decide, ?_⟩
 refine ld1 1 rfl rfl ?_
 refine czs (fun w hs => ht _ (by decide) (by decide) w (hs.nth (k := 0) rfl)) ?_
 exact rt rfl
theorem qdZ (b tb : Nat) (x : Int) (w : World) (hw : w.heap[b]? = some (.cells (shp tb) 344 (0, 0))) :
 Calls Tryz.prog 290 ([.pointer (some ⟨b, 0, none⟩), .int .u64 x, .int .i64 2] : List Value).toArray w fun e w' => e = .returned (.int .u64 (qbo x 1 8 7 true)) ∧ Below w.heap.size w w' := by
 have ht := fun (n : Int) h0 h1 w (h : w.heap[b]? = some (.cells (shp tb) 344 (0, 0))) => zx b (shp tb) 344 rfl x n h0 h1 w h
 refine qj qc Tryz.func290 rfl Tryz.ntmps290 rfl (St.reads1 hw) ?_
 refine ⟨by decide, by decide, ?_⟩
 refine ldP 0 rfl (d := #[.int .i64 1, .int .i64 8, .int .i64 7]) rfl rfl ?_
 intro b1
 refine sN 1 rfl rfl rfl ?_ (by kernel_rfl)
 refine ⟨by decide, by decide, ?_⟩
 refine ld1 1 rfl rfl ?_
 refine cvs (fun w hs => ht _ (by decide) (by decide) w (hs.nth (k := 0) rfl)) ?_
 refine ct (by decide) ?_
 refine ⟨by decide, by decide, ?_⟩
 refine ld1 1 rfl rfl ?_
 refine ⟨by decide, ?_⟩
 refine dr [cr b (shp tb) 344, cl b1 #[.int .i64 1, .int .i64 8, .int .i64 7] 206] 99 (.t 0 (.t 1 (.t 2 (.t 3 (.t 4 (.t 5 (.t 6 (.t 7 (.t 8 (.t 9 (.t 10 (.t 11 (.t 12 (.t 13 .nil)))))))))))))) qc qe (by kernel_rfl) (by repeat' constructor) ?_
 refine ⟨by decide, by decide, ?_⟩
 refine ld1 1 rfl rfl ?_
 refine czs (fun w hs => ht _ (by decide) (by decide) w (hs.nth (k := 0) rfl)) ?_
 refine ⟨by decide, by decide, ?_⟩
 refine ld1 1 rfl rfl ?_
 refine czs (fun w hs => ht _ (by decide) (by decide) w (hs.nth (k := 0) rfl)) ?_
 exact rt rfl
theorem qdY (b tb : Nat) (x : Int) (w : World) (hw : w.heap[b]? = some (.cells (shp tb) 344 (0, 0))) :
 Calls Tryz.prog 290 ([.pointer (some ⟨b, 0, none⟩), .int .u64 x, .int .i64 3] : List Value).toArray w fun e w' => e = .returned (.int .u64 (qbo x 19 61 6 true)) ∧ Below w.heap.size w w' := by
 have ht := fun (n : Int) h0 h1 w (h : w.heap[b]? = some (.cells (shp tb) 344 (0, 0))) => zx b (shp tb) 344 rfl x n h0 h1 w h
 refine qj qc Tryz.func290 rfl Tryz.ntmps290 rfl (St.reads1 hw) ?_
 refine ⟨by decide, by decide, ?_⟩
 refine ldP 0 rfl (d := #[.int .i64 19, .int .i64 61, .int .i64 6]) rfl rfl ?_
 intro b1
 refine sN 1 rfl rfl rfl ?_ (by kernel_rfl)
 refine ⟨by decide, by decide, ?_⟩
 refine ld1 1 rfl rfl ?_
 refine cvs (fun w hs => ht _ (by decide) (by decide) w (hs.nth (k := 0) rfl)) ?_
 refine ct (by decide) ?_
 refine ⟨by decide, by decide, ?_⟩
 refine ld1 1 rfl rfl ?_
 refine ⟨by decide, ?_⟩
 refine dr [cr b (shp tb) 344, cl b1 #[.int .i64 19, .int .i64 61, .int .i64 6] 206] 99 (.t 0 (.t 1 (.t 2 (.t 3 (.t 4 (.t 5 (.t 6 (.t 7 (.t 8 (.t 9 (.t 10 (.t 11 (.t 12 (.t 13 .nil)))))))))))))) qc qe (by kernel_rfl) (by repeat' constructor) ?_
 refine ⟨by decide, by decide, ?_⟩
 refine ld1 1 rfl rfl ?_
 refine czs (fun w hs => ht _ (by decide) (by decide) w (hs.nth (k := 0) rfl)) ?_
 refine ⟨by decide, by decide, ?_⟩
 refine ld1 1 rfl rfl ?_
 refine czs (fun w hs => ht _ (by decide) (by decide) w (hs.nth (k := 0) rfl)) ?_
 exact rt rfl
end
end Go.Proofs.YtbgefoamhdgnaaaGreatDoor
namespace Go.Sx
section
open Go Go.RowKit
variable {C : Cx} {L : List Ent}
abbrev Own := Option (Nat × Nat × List Value)
def sv (r : Own) (n : Nat) : Value := match r with
 | none => .slice none 0 0
 | some (b, c, _) => .slice (some ⟨b, 0, none⟩) n c
def se (r : Own) (xs : List Value) (e : TypeId) : Ent := match r with
 | none => dead
 | some (b, _, j) => cl b (xs ++ j).toArray e
def Rw (z n : Nat) (r : Own) (xs : List Value) : Prop := xs.length = n * z ∧ match r with
 | none => n = 0
 | some (_, c, j) => n ≤ c ∧ c ≤ maxLen ∧ (xs ++ j).length = c * z
theorem Rw.nil (z : Nat) : Rw z 0 none [] := ⟨by simp, rfl⟩
theorem setCells_at (b : Nat) (t : TypeId) (l : List Value) : ∀ (w : World) (c : Array Value) (o : Nat), w.heap[b]? = some (.cells c t (0, 0)) → o + l.length ≤ c.size → (w.setCells b o l).heap[b]? = some (.cells (c.toList.take o ++ l ++ c.toList.drop (o + l.length)).toArray t (0, 0)) := by
 induction l with
 | nil => intro w c o h hl; simpa [World.setCells] using h
 | cons v l ih =>
  intro w c o h hl
  simp only [World.setCells]
  have h1 := ih (w.setCell ⟨b, o, none⟩ v) (c.setIfInBounds o v) (o + 1) (heap_setCell_same w b o c t v h) (by simp at hl ⊢; omega)
  have e : (c.setIfInBounds o v).toList.take (o + 1) ++ l ++ (c.setIfInBounds o v).toList.drop (o + 1 + l.length) = c.toList.take o ++ (v :: l) ++ c.toList.drop (o + (v :: l).length) := by
   have hlt : o < c.toList.length := by simp at hl ⊢; omega
   rw [Array.toList_setIfInBounds]
   generalize c.toList = xs at *
   have e1 : (xs.set o v).take (o + 1) = xs.take o ++ [v] := by
    rw [List.take_succ_eq_append_getElem (by simpa using hlt), List.take_set_of_le (Nat.le_refl _)]
    simp
   have e2 : (xs.set o v).drop (o + 1 + l.length) = xs.drop (o + 1 + l.length) := List.drop_set_of_lt (by omega)
   rw [e1, e2]
   simp [Nat.add_comm, Nat.add_left_comm]
  rw [← e]; exact h1
theorem qdq (b : Nat) (l : List Value) : ∀ (w : World) (o k : Nat), k ≠ b → (w.setCells b o l).heap[k]? = w.heap[k]? := by
 induction l with
 | nil => intro w o k _; rfl
 | cons v l ih => intro w o k hk; simp only [World.setCells]; rw [ih _ _ _ hk]; exact heap_setCell_other w ⟨b, o, none⟩ k v hk
theorem qdr (b : Nat) (l : List Value) : ∀ (w : World) (o : Nat), (w.setCells b o l).os = w.os ∧ (w.setCells b o l).tape = w.tape ∧ (w.setCells b o l).output = w.output ∧ (w.setCells b o l).heap.size = w.heap.size := by
 induction l with
 | nil => intro w o; exact ⟨rfl, rfl, rfl, rfl⟩
 | cons v l ih => intro w o; simp only [World.setCells]; obtain ⟨h1, h2, h3, h4⟩ := ih (w.setCell ⟨b, o, none⟩ v) (o + 1); exact ⟨h1, h2, h3, h4.trans (by simp [World.setCell])⟩
theorem St.setCells {M : Bks} {B w : World} (h : St M B w L) {k b : Nat} {c : Array Value} {t : TypeId} (hk : L[k]? = some (cl b c t)) (o : Nat) (l : List Value) (hl : o + l.length ≤ c.size) :
 St M B (w.setCells b o l) (L.set k (cl b (c.toList.take o ++ l ++ c.toList.drop (o + l.length)).toArray t)) := by
 obtain ⟨h1, h2, h3, h4⟩ := qdr b l w o
 exact h.set hk (by omega) (setCells_at b t l w c o (h.nth hk) hl) (fun j _ hj => qdq b l w o j hj) h1 h2 h3
theorem slOf {P : Program} {T : Tab} (hT : TabOk P T) {t e z : Nat} (h : look T.rows t fun y _ => y = .sl e z) : P.underlying t = some (.slice e) := by
 obtain ⟨y, n, rfl, hr⟩ := hT.row h
 exact (qG hr).1
theorem Qg {P : Program} {e : TypeId} {zv : Value} {z by' : Nat} (hi : (P.info? e).map (fun i => (i.zero, i.size, i.bytes)) = some (some zv, z, by')) : ∃ i, P.info? e = some i ∧ i.zero = some zv ∧ i.size = z ∧ i.bytes = by' := by
 cases h : P.info? e with
 | none => rw [h] at hi; cases hi
 | some i => rw [h] at hi; simp only [Option.map_some, Option.some.injEq, Prod.mk.injEq] at hi; exact ⟨i, rfl, hi⟩
theorem ap (k : Nat) (hT : TabOk C.P C.T) {t tx ty e z by' : Nat} {zv : Value} {cs : Array Bool} {r : Own} {xs news : List Value} {n m : Nat} {x : Value} {next : Value → List Ent → Prop}
 (ht : look C.T.rows t fun y _ => y = .sl e z) (hi : (C.P.info? e).map (fun i => (i.zero, i.size, i.bytes)) = some (some zv, z, by')) (hz : zv.cells.size = z)
 (hk : L[k]? = some (se r xs e)) (hR : Rw z n r xs) (hsrc : ∀ w, St C.M C.B w L → Src C.P z tx x m news w)
 (hby : (n + m + (n + m) / 4 + 192) * by' ≤ 281474976710656) (h63 : n + m ≤ maxLen) (go : ∀ r', Rw z (n + m) r' (xs ++ news) → next (sv r' (n + m)) (L.set k (se r' (xs ++ news) e))) :
 BiP C .append #[t, tx] ty cs [sv r n, x] L next := by
 refine ⟨fun w hs => ?_⟩
 obtain ⟨i0, hi0, hz0', rfl, hz2⟩ := Qg hi
 subst hz2
 have hsr := hsrc w hs
 have key : ∃ r' w', (Builtin.append_ #[t, tx] ty #[sv r n, x]).run C.P w = .ok (sv r' (n + m)) w' ∧ Rw i0.size (n + m) r' (xs ++ news) ∧ St C.M C.B w' (L.set k (se r' (xs ++ news) e)) := by
  have h63' : ((n + m : Nat) : Int) ≤ 9223372036854775807 := by simp only [maxLen] at h63; omega
  have hgr : ∀ (base : Option Addr) (sCap : Nat), sCap < n + m → (Builtin.firstCells i0.size n (.slice base n sCap)).run C.P w.drew = .ok xs.toArray w.drew → sv r n = .slice base n sCap →
   ∃ r' w', (Builtin.append_ #[t, tx] ty #[sv r n, x]).run C.P w = .ok (sv r' (n + m)) w' ∧ Rw i0.size (n + m) r' (xs ++ news) ∧ St C.M C.B w' (L.set k (se r' (xs ++ news) e)) := by
   intro base sCap hg hold hv
   have hrun := run_append_grow_src w t tx ty e i0 zv (slOf hT ht) hi0 hz0' base n sCap xs hold x m news hsr hg h63' (growslice_fits_wide hg hby)
   rw [← hv] at hrun
   have hge := grownCap_ge w (n + m) sCap e
   refine ⟨some (w.heap.size, grownCap w (n + m) sCap e, (Builtin.zeroCells zv.cells (grownCap w (n + m) sCap e - (n + m))).toList), _, hrun, ⟨?_, hge, grownCap_le_maxLen w (n + m) sCap e h63, ?_⟩, ?_⟩
   · rw [List.length_append, hR.1, hsr.newsLen, Nat.add_mul]
   · simp only [List.length_append, hR.1, hsr.newsLen, Array.length_toList, size_zeroCells, hz, ← Nat.add_mul]
     congr 1; omega
   · have := hs.drew.swap k (zG w.drew (.cells ((xs ++ news).toArray ++ Builtin.zeroCells zv.cells (grownCap w (n + m) sCap e - (n + m))) e)) (Nat.le_refl _) (heap_alloc_new _ _)
     have e2 : (xs ++ news ++ (Builtin.zeroCells zv.cells (grownCap w (n + m) sCap e - (n + m))).toList).toArray = (xs ++ news).toArray ++ Builtin.zeroCells zv.cells (grownCap w (n + m) sCap e - (n + m)) := by apply Array.ext'; simp
     simp only [se, e2]
     exact this
  cases r with
  | none =>
   have hn : n = 0 := hR.2
   subst hn
   have hx : xs = [] := List.eq_nil_of_length_eq_zero (by simpa using hR.1)
   subst hx
   by_cases hm : m = 0
   · subst hm
     have hnew : news = [] := List.eq_nil_of_length_eq_zero (by simpa using hsr.newsLen)
     subst hnew
     refine ⟨none, w, ?_, Rw.nil _, hs.kill k⟩
     rcases hsr.kind with ⟨e', hk'⟩ | hk' <;> simp [Builtin.append_, sv, run_underlying (slOf hT ht), run_underlying hk', sizeOf, typeInfo, hi0, hsr.len, hsr.cells]
   · exact hgr none 0 (by omega) (run_firstCells_none w.drew _ 0 0 0) rfl
  | some p =>
   obtain ⟨b, cap, j⟩ := p
   obtain ⟨h1, h2, h3, h4⟩ := hR
   have hcell : ∀ i, w.cell? ⟨b, i, none⟩ = (xs ++ j).toArray[i]? := fun i => hs.cell hk i
   by_cases hroom : n + m ≤ cap
   · have hlen : 0 + n * i0.size + news.length ≤ (xs ++ j).toArray.size := by
      rw [hsr.newsLen, List.size_toArray, h4, Nat.zero_add, ← Nat.add_mul]; exact Nat.mul_le_mul_right _ hroom
     have hrun := run_append_room_src w t tx ty e i0 (slOf hT ht) hi0 b 0 n cap x m news hsr hroom (fun q hq => by
      rw [hcell]; have : 0 + n * i0.size + q < (xs ++ j).toArray.size := by omega
      simp
      simpa using this) (fun q hq => frozen_of_row w b _ _ e (hs.nth hk))
     refine ⟨some (b, cap, j.drop news.length), _, hrun, ⟨?_, hroom, h3, ?_⟩, ?_⟩
     · rw [List.length_append, h1, hsr.newsLen, Nat.add_mul]
     · have := hsr.newsLen
       simp only [List.size_toArray] at hlen
       simp only [List.length_append, List.length_drop] at h4 hlen ⊢
       omega
     · have := hs.setCells hk (0 + n * i0.size) news hlen
       have e2 : ((xs ++ j).toArray.toList.take (0 + n * i0.size) ++ news ++ (xs ++ j).toArray.toList.drop (0 + n * i0.size + news.length)) = xs ++ news ++ j.drop news.length := by
        rw [Nat.zero_add, ← h1]; simp
       rw [e2] at this
       exact this
   · refine hgr (some ⟨b, 0, none⟩) cap (by omega) ?_ rfl
     refine run_firstCells_some w.drew i0.size n ⟨b, 0, none⟩ n cap xs h1 (fun q u hq => ?_)
     rw [Qp, World.cell?_drew, hcell, Nat.zero_add]
     have := (List.getElem?_eq_some_iff.1 hq).1
     simp [List.getElem?_append, this]
     simpa [this] using hq
 obtain ⟨r', w', hr, hR', hs'⟩ := key
 have : (builtin .append #[t, tx] ty cs #[sv r n, x]).run C.P w = .ok (.value (sv r' (n + m))) w' := by simp [builtin, hr]
 show Fin C next ((builtin .append #[t, tx] ty cs #[sv r n, x]).run C.P w)
 rw [this]
 exact ⟨_, hs', go r' hR'⟩
theorem apRun {ts : Array TypeId} {ty : TypeId} {cs : Array Bool} {vs : List Value} {next : Value → List Ent → Prop} (h : ∀ w, St C.M C.B w L → ∃ r w' L', (Builtin.append_ ts ty vs.toArray).run C.P w = .ok r w' ∧ St C.M C.B w' L' ∧ next r L') : BiP C .append ts ty cs vs L next := by
 refine ⟨fun w hs => ?_⟩
 obtain ⟨r, w', L', hr, hs', hn⟩ := h w hs
 have : (builtin .append ts ty cs vs.toArray).run C.P w = .ok (.value r) w' := by simp [builtin, hr]
 rw [this]
 exact ⟨L', hs', hn⟩
theorem srcE {z tx e' m c : Nat} (hk' : look C.T.rows tx fun y _ => y = .sl e' z) (hT : TabOk C.P C.T) {b o : Nat} {news : List Value} (hsrc : ∀ w, St C.M C.B w L → ∀ j u, news[j]? = some u → w.cell? ((⟨b, o, none⟩ : Addr).add j) = some u) (hl : news.length = m * z) (h1 : ∀ u ∈ news, u.oneCell' = true) :
 ∀ w, St C.M C.B w L → Src C.P z tx (.slice (some ⟨b, o, none⟩) m c) m news w := fun w hs => Src.ofSlice w (slOf hT hk') ⟨b, o, none⟩ m c news hl (hsrc w hs) h1
theorem src (k : Nat) {b o : Nat} {c : Array Value} {t : TypeId} {fz : Nat × Nat} {ro : Bool} {news : List Value} (hk : L[k]? = some ⟨b, some (.cells c t fz), ro, none⟩) (hx : (c.toList.drop o).take news.length = news) :
 ∀ w, St C.M C.B w L → ∀ j u, news[j]? = some u → w.cell? ((⟨b, o, none⟩ : Addr).add j) = some u := by
 intro w hs j u hu
 rw [Qp, hs.cell hk]
 have hj := (List.getElem?_eq_some_iff.1 hu).1
 rw [← hx, List.getElem?_take, if_pos hj, List.getElem?_drop] at hu
 simpa using hu
def Rd (w : World) (v : Value) (xs : List Value) : Prop := ∃ a c, v = .slice a xs.length c ∧ (xs ≠ [] → ∃ b o, a = some ⟨b, o, none⟩ ∧ b < w.heap.size ∧ ∀ j u, xs[j]? = some u → w.cell? ⟨b, o + j, none⟩ = some u)
theorem Rd.below {w w' : World} {v : Value} {xs : List Value} (h : Rd w v xs) (hb : Below w.heap.size w w') : Rd w' v xs := by
 obtain ⟨a, c, h0, h⟩ := h
 refine ⟨a, c, h0, fun hx => ?_⟩
 obtain ⟨b, o, h1, h2, h3⟩ := h hx
 exact ⟨b, o, h1, Nat.lt_of_lt_of_le h2 hb.size, fun j u hu => (hb.cell (p := ⟨b, o + j, none⟩) h2).trans (h3 j u hu)⟩
theorem Rd.ent {M : Bks} {B w : World} (hs : St M B w L) (k : Nat) {b o n cap : Nat} {c : Array Value} {t : TypeId} {fz : Nat × Nat} {ro : Bool} {xs : List Value} (hk : L[k]? = some ⟨b, some (.cells c t fz), ro, none⟩) (hn : n = xs.length) (hx : (c.toList.drop o).take n = xs) : Rd w (.slice (some ⟨b, o, none⟩) n cap) xs := by
 subst hn
 refine ⟨_, cap, rfl, fun _ => ⟨b, o, rfl, hs.lt (List.mem_of_getElem? hk) rfl, fun j u hu => ?_⟩⟩
 have := src (C := ⟨default, ⟨[], [], 0, []⟩, 0, M, B, none⟩) k hk hx w hs j u hu
 rwa [Qp] at this
theorem Rd.own {M : Bks} {B w : World} (hs : St M B w L) (k : Nat) {r : Own} {xs : List Value} {e : TypeId} {n : Nat} (hk : L[k]? = some (se r xs e)) (hR : Rw 1 n r xs) : Rd w (sv r n) xs := by
 obtain ⟨h1, h2⟩ := hR
 cases r with
 | none =>
  simp only at h2; subst h2
  have hx : xs = [] := List.eq_nil_of_length_eq_zero (by simpa using h1)
  subst hx
  exact ⟨none, 0, rfl, fun h => absurd rfl h⟩
 | some p =>
  obtain ⟨b, c, j⟩ := p
  refine Rd.ent hs k hk (by omega) ?_
  have : n = xs.length := by omega
  subst this
  simp
theorem Rd.src {w : World} {tx e' : Nat} {x : Value} {news : List Value} (h : Rd w x news) {P : Program} (hk : P.underlying tx = some (.slice e')) (h1 : ∀ u ∈ news, u.oneCell' = true) : Src P 1 tx x news.length news w := by
 obtain ⟨a, c, rfl, h⟩ := h
 by_cases hx : news = []
 · subst hx
   cases a with
   | none => exact Src.ofNil w hk c
   | some a => exact Src.ofSlice w hk a 0 c [] rfl (by simp) (by simp)
 · obtain ⟨b, o, rfl, _, hc⟩ := h hx
   exact Src.ofSlice w hk ⟨b, o, none⟩ _ c news (by simp) (fun j u hu => by rw [Qp]; exact hc j u hu) h1
theorem ldo {P : Program} {T : Tab} {N : Nat} {F : Option Nat} {B : World} {b o : Nat} {v : Value} {next : Value → Prop} (h : B.cell? ⟨b, o, none⟩ = some v) (hb : b < B.heap.size) (go : next v) : Ld1 ⟨P, T, N, [], B, F⟩ L b o next :=
 ⟨v, fun w hs => (hs.below.cell (p := ⟨b, o, none⟩) hb).trans h, go⟩
def zq (w w' : World) (r : Own) (xs : List Value) (e : TypeId) : Prop := ∀ b c j, r = some (b, c, j) → w.heap.size ≤ b ∧ w'.heap[b]? = some (.cells (xs ++ j).toArray e (0, 0))
theorem Qx {M : Bks} {B w : World} (hs : St M B w L) (hM : M = []) (k : Nat) {r : Own} {xs : List Value} {e : TypeId} (hk : L[k]? = some (se r xs e)) : zq B w r xs e := by
 rintro b c j rfl
 refine ⟨?_, hs.nth hk⟩
 rcases hs.own _ (List.mem_of_getElem? hk) rfl rfl with h | h
 · exact h
 · rw [hM] at h; simp at h
theorem co {g : FuncId} {vs : List Value} {n z : Nat} {xs : List Value} {e : TypeId} {next : Value → List Ent → Prop}
 (h : ∀ w, St C.M C.B w L → Calls C.P g vs.toArray w fun en w' => ∃ r, en = .returned (sv r n) ∧ Rw z n r xs ∧ zq w w' r xs e ∧ Below w.heap.size w w')
 (go : ∀ r, Rw z n r xs → next (sv r n) (L ++ [se r xs e])) : zJ C g vs L next := by
 refine ⟨fun w hs => (h w hs).mono fun en w' ⟨r, he, hR, ho, hb⟩ => ⟨_, _, he, ?_, go r hR⟩⟩
 cases r with
 | none => exact (hs.call hb).push (Below.refl _ _) (by simp [se]) (fun k hk => by simp [se] at hk) (fun k hk => by simp [se] at hk)
 | some p =>
  obtain ⟨b, c, j⟩ := p
  obtain ⟨h1, h2⟩ := ho b c j rfl
  exact hs.add hb h1 h2
end
section
open Go Go.RowKit
variable {C : Cx} {L : List Ent}
theorem enterB {P : Program} {T : Tab} (hT : TabOk P T) {g : FuncId} {fn : Func} {c : Code} (hf : P.funcs[g]? = some fn) (hb : fn.body = some c) {N : Nat} (hN : fn.ntmps = N) {vs : List Value} (hle : Nat.ble vs.length N = true) {M : Bks} {B w : World} {L : List Ent}
 {R : Value → World → Prop} (hs : St M B w L) (h : cx ⟨P, T, N, M, B, none⟩ c (retK ⟨P, T, N, M, B, none⟩ fn R) ⟨par 0 vs, L, []⟩) : Calls P g vs.toArray w fun e w' => ∃ v, e = .returned v ∧ R v w' := by
 subst hN
 refine (callsIn_wide (n := 3)).1 (callsIn_of_wp_marks hf hb trivial (wpIn_mono ((ZO (C := ⟨P, T, fn.ntmps, M, B, none⟩) hT _ _ _ h).go 3 _ w ⟨by have := Nat.le_of_ble_eq_true hle; simp; omega, rfl, ?_⟩ hs) ?_) rfl)
 · intro i v hv
   obtain ⟨_, h1⟩ := par_get _ _ _ _ hv
   have hi : i < vs.length := (List.getElem?_eq_some_iff.1 h1).1
   simp [Array.getD_eq_getD_getElem?, Array.getElem?_append, hi]
   simpa [hi] using h1
 · rintro e a w' ⟨s, hf', hs', hk⟩
   have hd := hf'.defers
   cases e with
   | normal => simp only [bodyPostM, hd]; exact qa3 (C := ⟨P, T, fn.ntmps, M, B, none⟩) hT hf'.slot s.D s.L w' hs' hk
   | ret => simp only [bodyPostM, hd]; exact qa3 (C := ⟨P, T, fn.ntmps, M, B, none⟩) hT hf'.slot s.D s.L w' hs' hk
   | _ => exact hk.elim
def Back (M : Bks) (B : World) (next : Value → List Ent → Prop) (v : Value) (w' : World) : Prop := ∃ L', St M B w' L' ∧ next v L'
theorem inl (hT : TabOk C.P C.T) {g : FuncId} {fn : Func} {c : Code} (hf : C.P.funcs[g]? = some fn) (hb : fn.body = some c) {N : Nat} (hN : fn.ntmps = N) {vs : List Value} (hle : Nat.ble vs.length N = true) {next : Value → List Ent → Prop}
 (h : cx ⟨C.P, C.T, N, C.M, C.B, none⟩ c (retK ⟨C.P, C.T, N, C.M, C.B, none⟩ fn (Back C.M C.B next)) ⟨par 0 vs, L, []⟩) : zJ C g vs L next :=
 ⟨fun w hs => (enterB hT hf hb hN hle hs h).mono fun e w' ⟨v, he, L', h1, h2⟩ => ⟨v, L', he, h1, h2⟩⟩
theorem bk {P : Program} {T : Tab} {N : Nat} {M : Bks} {B : World} {F : Option Nat} {next : Value → List Ent → Prop} {v : Value} (h : next v L) : RetP ⟨P, T, N, M, B, F⟩ (Back M B next) v L := ⟨fun w hs => ⟨L, hs, h⟩⟩
theorem len_set {k i : Nat} {e : Ent} {f : Ent} (hi : L[i]? = some f) (hk : k ≠ i) : (L.set k e)[i]? = some f := by rw [List.getElem?_set_ne hk]; exact hi
theorem at_set {k : Nat} {e f : Ent} (hi : L[k]? = some f) : (L.set k e)[k]? = some e := by
 have := (List.getElem?_eq_some_iff.1 hi).1
 simp [this]
theorem semV {m : Sem Value} {v : Value} {next : Value → List Ent → Prop} (h : ∀ w, St C.M C.B w L → m.run C.P w = .ok v w) (go : next v L) : ZV C m L next := ⟨fun w hs => ⟨v, w, L, h w hs, hs, go⟩⟩
theorem opV {o : Oper} {σ : Fr} {v : Value} {next : Value → List Ent → Prop} (h : ∀ ρ w, Fit σ ρ → St C.M C.B w L → (execOp ρ o).run C.P w = .ok (.value v) w) (go : next v L) : OpP C o σ L next :=
 ⟨fun ρ w hf hs => Fin.val (h ρ w hf hs) hs go⟩
theorem qd9 {o : Oper} {σ : Fr} {v : Value} {x : Operand} {«as» : Array Operand} {ts : Array TypeId} {g : FuncId} {vs : List Value} {next : Value → List Ent → Prop} (ho : o.op = .call ⟨.value x, «as», ts⟩) (hx : ev σ x (· = .func (.func g) #[] #[])) (ha : evs σ «as».toList (· = vs))
 (h : ∀ w, St C.M C.B w L → (callFunc g vs.toArray).run C.P w = .ok (.value v) w) (go : next v L) : OpP C o σ L next := by
 refine opV (fun ρ w hf hs => ?_) go
 have e1 := hf x _ hx
 have e2 := hf.evs _ _ ha
 have e3 : «as».map ρ = vs.toArray := by apply Array.ext'; rw [← e2]; simp
 unfold execOp
 simp only [ho, resolve, e1, e3]
 simp [Deferred.ofValue, invoke, h w hs]
theorem set_same {k : Nat} {e : Ent} (h : L[k]? = some e) : L.set k e = L := by
 obtain ⟨h1, h2⟩ := List.getElem?_eq_some_iff.1 h
 subst h2; exact List.set_getElem_self h1
theorem St.lose {M : Bks} {B w w' : World} (h : St M B w L) {k b : Nat} {o o' : Obj} (hk : L[k]? = some ⟨b, some o, false, none⟩) (hs : w.heap.size ≤ w'.heap.size) (ho : w'.heap[b]? = some o')
 (hoth : ∀ j, j < w.heap.size → j ≠ b → w'.heap[j]? = w.heap[j]?) (h1 : w'.os = w.os) (h2 : w'.tape = w.tape) (h3 : w'.output = w.output) : St M B w' (L.set k dead) := by
 have := (h.set hk hs ho hoth h1 h2 h3).kill k
 rwa [List.set_set] at this
theorem at_app {i : Nat} {e : Ent} {l : List Ent} (h : L[i]? = some e) : (L ++ l)[i]? = some e := by
 have := (List.getElem?_eq_some_iff.1 h).1
 rw [List.getElem?_append_left this]; exact h
theorem at_new {e : Ent} : (L ++ [e])[L.length]? = some e := by simp
theorem at_len {i : Nat} {e : Ent} (h : L[i]? = some e) : i < L.length := (List.getElem?_eq_some_iff.1 h).1
theorem qk (l : List Ent) : Sub L (L ++ l) := by
 induction L with
 | nil => exact .nil
 | cons e L ih => exact .cons ih
theorem bkS {P : Program} {T : Tab} {N : Nat} {M : Bks} {B : World} {F : Option Nat} {next : Value → List Ent → Prop} {v : Value} {L' : List Ent} (hs : Sub L' L) (h : next v L') : RetP ⟨P, T, N, M, B, F⟩ (Back M B next) v L := ⟨fun w hw => ⟨L', hw.sub hs, h⟩⟩
theorem sub3 {k kr : Nat} {e1 e2 f g h : Ent} {l : List Ent} (hkr : k ≠ kr) (h1 : L[k]? = some g) (h2 : L[kr]? = some h) : Sub ((L.set k e2).set kr f) (((L.set k e1 ++ l).set kr f).set k e2) := by
 have l1 := at_len h1
 have l2 := at_len h2
 rw [List.set_append_left _ _ (by simpa using l2), List.set_append_left _ _ (by simpa using l1), List.set_comm _ _ (Ne.symm hkr), List.set_set]
 exact qk _
theorem sub_dead (k : Nat) : Sub (L.set k dead) L := by
 induction L generalizing k with
 | nil => exact .nil
 | cons e L ih =>
  cases k with
  | zero => exact .dead (Sub.refl L)
  | succ k => exact .cons (ih k)
theorem bu {P : Program} {t : TypeId} {ps : Array (Nat × Value)} {c : Array Value} {next : Value → Prop} (h : P.built t ps.toList = some c) (go : next (.agg c)) : BuP P t ps next := ⟨_, fun w => run_build w t ps c h, go⟩
theorem biW {b : Builtin} {ts : Array TypeId} {t : TypeId} {cs : Array Bool} {vs : List Value} {next : Value → List Ent → Prop} {m : Sem Value} (hb : builtin b ts t cs vs.toArray = (do pure (.value (← m)))) (h : ∀ w, St C.M C.B w L → ∃ v w' L', m.run C.P w = .ok v w' ∧ St C.M C.B w' L' ∧ next v L') : BiP C b ts t cs vs L next := by
 refine ⟨fun w hs => ?_⟩
 obtain ⟨v, w', L', hr, hs', hn⟩ := h w hs
 rw [hb, Sem.run_bind, hr]
 exact ⟨L', hs', hn⟩
theorem biV {b : Builtin} {ts : Array TypeId} {t : TypeId} {cs : Array Bool} {vs : List Value} {next : Value → List Ent → Prop} {m : Sem Value} {v : Value} (hb : builtin b ts t cs vs.toArray = (do pure (.value (← m)))) (h : ∀ w, St C.M C.B w L → m.run C.P w = .ok v w) (go : next v L) : BiP C b ts t cs vs L next :=
 biW hb fun w hs => ⟨v, w, L, h w hs, hs, go⟩
theorem ZH {e z : Nat} {aa : Option Addr} {n cap k : Nat} (ha : ∀ a, aa = some a → a.spot = none) (hk : k ≤ n) (hc : n ≤ cap) {next : Value → Prop} {fb : Prop} (go : next (.slice aa k cap)) : SliP (.sl e z) (.slice aa n cap) none (some (k : Int)) none next fb := by
 refine ⟨?_⟩
 cases aa with
 | none =>
  refine .mk 0 k cap rfl rfl rfl (Nat.zero_le _) (by omega) (Nat.le_refl _) (by simp) ?_
  exact go
 | some a =>
  obtain ⟨b, o, sp⟩ := a
  obtain rfl : sp = none := ha _ rfl
  refine .mk 0 k cap rfl rfl rfl (Nat.zero_le _) (by omega) (Nat.le_refl _) (by simp) ?_
  by_cases h0 : cap = 0
  · exact .all h0 go
  · refine .on (by omega) ?_
    rw [qi, qh, Nat.zero_mul, Nat.add_zero]; exact go
theorem St.deads {M : Bks} {B w : World} (h : St M B w L) : St M B w (L ++ [dead]) := h.push (Below.refl _ _) (by simp) (fun k hk => by simp at hk) (fun k hk => by simp at hk)
theorem lpe {C : Cx} (hT : TabOk C.P C.T) {body : Code} {K : Exit → Sy → Prop} {s : Sy} (id : Nat) {β : Type} (I : β → Prop) (E : β → Sy) {α : Type} (J : α → Prop) (f : α → Sy) (μ : α → Nat) (x0 : α) (h0 : J x0) (hle : Le (f x0) s)
 (step : ∀ x, J x → cx C body (fun e s' => match e with | .normal => ∃ y, J y ∧ μ y < μ x ∧ Le (f y) s' | .exit j => cond (Nat.beq j id) (∃ z, I z ∧ Le (E z) s') (K (.exit j) s') | e => K e s') (f x))
 (hE : ∀ z, I z → K (.exit id) (E z)) : LoopP C body K s := by
 have h := lp hT (K := fun e s' => match e with | .exit j => cond (Nat.beq j id) (∃ z, I z ∧ Le (E z) s') (K (.exit j) s') | e => K e s') J f μ x0 h0 hle (fun x hx => by
  have := step x hx
  have e : (fun e s' => match e with | .normal => ∃ y, J y ∧ μ y < μ x ∧ Le (f y) s' | .exit j => cond (Nat.beq j id) (∃ z, I z ∧ Le (E z) s') (K (.exit j) s') | e => K e s') = (fun e s' => match e with | .normal => ∃ y, J y ∧ μ y < μ x ∧ Le (f y) s' | e => (fun e s' => match e with | .exit j => cond (Nat.beq j id) (∃ z, I z ∧ Le (E z) s') (K (.exit j) s') | e => K e s') e s' : Exit → Sy → Prop) := by
   funext e s'; cases e <;> rfl
  rw [e] at this; exact this)
 refine ⟨fun n a w hf hs => wpIn_mono (h.go n a w hf hs) ?_⟩
 rintro e a' w' ⟨s', hf', hs', hk⟩
 cases e with
 | exit j =>
  simp only at hk
  by_cases hj : j = id
  · subst hj
    simp only [Nat.beq_refl, cond_true] at hk
    obtain ⟨z, hz, hle⟩ := hk
    exact ⟨E z, hf'.le hle, hs'.sub hle.l, hE z hz⟩
  · have : Nat.beq j id = false := Bool.eq_false_iff.2 fun e => hj (Nat.eq_of_beq_eq_true e)
    simp only [this, cond_false] at hk
    exact ⟨s', hf', hs', hk⟩
 | _ => exact ⟨s', hf', hs', hk⟩
end
end Go.Sx
namespace Go.Proofs.YtbgefoamhdgnaaaGreatDoor
section
open Go.RowKit Go.Sx
theorem Qj : (Tryz.prog.info? 5).map (fun i => (i.zero, i.size, i.bytes)) = some (some (.int .u8 0), 1, 1) := by kernel_rfl
theorem Zq : Tryz.prog.underlying 48 = some (.slice 5) := by kernel_rfl
abbrev ptr (b : Nat) : Value := .pointer (some ⟨b, 0, none⟩)
end
section
open Go.RowKit Go.Sx
theorem run_zeros (w : World) (n : Nat) (h0 : 0 < n) (h1 : n ≤ 140737488355328) : ∃ c, n ≤ c ∧ c ≤ maxLen ∧ (Builtin.append_ #[48, 3] 48 #[.slice none 0 0, .int .i64 n]).run Tryz.prog w = .ok (.slice (some ⟨w.heap.size, 0, none⟩) n c) (w.drew.alloc (.cells (List.replicate c (.int .u8 0)).toArray 5)) := by
 refine ⟨grownCap w n 0 5, grownCap_ge w n 0 5, grownCap_le_maxLen w n 0 5 (by unfold maxLen; omega), ?_⟩
 have hge := grownCap_ge w n 0 5
 obtain ⟨i0, hi, hz, hs, hb⟩ := Qg Qj
 have hn : n ≠ 0 := by omega
 have hw : IntKind.i64.wrap (n : Int) = n := by rw [IntKind.wrap_i64]; omega
 have h63' : ¬ (9223372036854775807 < ((n : Int))) := by omega
 have h48' : ¬ (281474976710656 < Builtin.nextslicecap n 0 * i0.bytes) := by rw [hb]; simp [Builtin.nextslicecap, h0]; omega
 have h48i : ¬ (281474976710656 < (n : Int) * (i0.bytes : Int)) := by rw [hb]; omega
 have hneg : ¬ ((n : Int) < 0) := by omega
 have zc : ∀ k, Builtin.zeroCells #[Value.int .u8 0] k = (List.replicate k (.int .u8 0)).toArray := fun k => by
  apply Array.ext'
  simp only [Builtin.zeroCells, Array.toList_map, Array.toList_range, List.size_toArray, List.length_singleton, Nat.mul_one, Nat.mod_one]
  exact List.map_const' .. |>.trans (by simp)
 have hz' : (Builtin.zeroCells #[Value.int .u8 0] n ++ Builtin.zeroCells #[Value.int .u8 0] (grownCap w n 0 5 - n)) = (List.replicate (grownCap w n 0 5) (.int .u8 0)).toArray := by
  rw [zc, zc, List.append_toArray, List.replicate_append_replicate, Nat.add_sub_cancel' hge]
 simp [Builtin.append_, run_underlying Tryz.underlying48, run_underlying Tryz.underlying3, sizeOf, typeInfo, zeroValue, hi, hz, hs, hn, hw, h63', h48', h48i, hneg, asInt, asIntOf, Question.forced, newRow, run_firstCells_none]
 have hz2 : (Array.replicate (grownCap w n 0 5) (Value.int .u8 0)) = (List.replicate (grownCap w n 0 5) (.int .u8 0)).toArray := by simp
 refine ⟨rfl, ?_⟩
 rw [hz2, ← hz']
 rfl
theorem sgrow_any (n : Nat) (hn : n ≤ 100000000) (w : World) :
 Calls Tryz.prog 165 ([.slice none 0 0, .int .i64 n] : List Value).toArray w fun e w' => ∃ r, e = .returned (sv r 0) ∧ Rw 1 0 r [] ∧ zq w w' r [] 5 ∧ Below w.heap.size w w' := by
 have hz := fun w h0 => run_zeros w n h0 (by omega)
 refine (enter qc Tryz.func165 rfl Tryz.ntmps165 rfl (St.start w) (R := fun v w' => ∃ r, v = sv r 0 ∧ Rw 1 0 r [] ∧ zq w w' r [] 5 ∧ Below w.heap.size w w') ?_).mono (fun e w' ⟨v, he, r, hv, h⟩ => ⟨r, by rw [he, hv], h⟩)
 refine cf (by simp) ?_
 refine .as 0 (by omega) (by decide) (by decide) ?_
 refine .as n (by omega) (by simp only [mn]; omega) (by simp only [mx]; omega) ?_
 refine cd (fun h => ?_) (fun h => ?_)
 · have hn0 : 0 < n := by omega
   refine ⟨.mk 0 0 0 rfl rfl rfl (by decide) (by decide) (by decide) (by simp) ?_⟩
   refine apRun fun w' hs => ?_
   refine (hz w' hn0).elim fun c h => ?_
   refine ⟨_, _, _, h.2.2, hs.drew.alloc _, ?_⟩
   have h1 := h.1
   have h2 := h.2.1
   clear h
   refine ⟨.mk 0 0 c rfl rfl rfl (by decide) (by omega) (by omega) (by simp) (.on (by omega) ?_)⟩
   refine ⟨fun w1 hs1 => ⟨some (w'.heap.size, c, List.replicate c (.int .u8 0)), rfl, ⟨rfl, by omega, h2, by simp⟩, ?_, hs1.below⟩⟩
   exact Qx (r := some (w'.heap.size, c, List.replicate c (.int .u8 0))) hs1 rfl 0 rfl
 · refine ⟨fun w1 hs1 => ⟨none, rfl, Rw.nil 1, fun _ _ _ h => (by cases h), hs1.below⟩⟩
def qbV (xss : List (List Value)) (k : Nat) : List Value := (xss.take k).flatten
theorem qeZ (xss : List (List Value)) (k : Nat) (h : k < xss.length) : qbV xss (k + 1) = qbV xss k ++ xss[k] := by
 unfold qbV
 rw [List.take_succ_eq_append_getElem h, List.flatten_append]; simp
theorem qcU (xss : List (List Value)) (k : Nat) : (qbV xss k).length ≤ xss.flatten.length := by
 unfold qbV
 conv => rhs; rw [← List.take_append_drop k xss]
 rw [List.flatten_append, List.length_append]; omega
theorem flat_all (xss : List (List Value)) : qbV xss xss.length = xss.flatten := by simp [qbV]
theorem qbu (pb po kc : Nat) (vs : List Value) (xss : List (List Value)) (hlen : vs.length = xss.length) (w : World) (hpb : pb < w.heap.size) (hp : ∀ (i : Nat) (u : Value), vs[i]? = some u → w.cell? ⟨pb, po + i, none⟩ = some u)
 (hx : ∀ (i : Nat) (v : Value) (xs : List Value), vs[i]? = some v → xss[i]? = some xs → Rd w v xs) (h1 : ∀ xs ∈ xss, ∀ u ∈ xs, u.oneCell' = true) (hn : xss.flatten.length ≤ 100000000) (hk : xss.length ≤ 1000) :
 Calls Tryz.prog 122 ([.slice (some ⟨pb, po, none⟩) xss.length kc] : List Value).toArray w fun e w' => ∃ r, e = .returned (sv r xss.flatten.length) ∧ Rw 1 xss.flatten.length r xss.flatten ∧ zq w w' r xss.flatten 5 ∧ Below w.heap.size w w' := by
 have hg := fun w => sgrow_any xss.flatten.length hn w
 refine (enter qc Tryz.func122 rfl Tryz.ntmps122 rfl (St.start w) (R := fun v w' => ∃ r, v = sv r xss.flatten.length ∧ Rw 1 xss.flatten.length r xss.flatten ∧ zq w w' r xss.flatten 5 ∧ Below w.heap.size w w') ?_).mono (fun e w' ⟨v, he, r, hv, h⟩ => ⟨r, by rw [he, hv], h⟩)
 refine lp qc (fun i : Nat => i ≤ xss.length) (fun i => ⟨[(0, .slice (some ⟨pb, po, none⟩) xss.length kc), (3, .int .i64 (qbV xss i).length), (9, .slice (some ⟨pb, po, none⟩) xss.length kc), (10, .int .i64 xss.length), (11, .int .i64 i)], [], []⟩) (fun i => xss.length - i) 0 (Nat.zero_le _) ⟨⟨rfl, rfl, rfl, rfl, rfl, trivial⟩, .nil, rfl⟩ ?_
 intro i hi
 refine cd (fun h => ?_) (fun h => ?_)
 · have hlt : i < xss.length := by omega
   obtain ⟨a, c, hv, _⟩ := hx i vs[i] xss[i] (by simp [hlen, hlt]) (by simp [hlt])
   have hle := qcU xss (i + 1)
   have hsucc := qeZ xss i hlt
   refine ⟨by omega, by omega, ?_⟩
   refine ldo (v := .slice a xss[i].length c) (by rw [← hv, qi, qh]; simpa using hp i _ (by simp [hlen, hlt])) hpb ?_
   refine .as ((qbV xss (i + 1)).length : Int) (by rw [hsucc, List.length_append]; omega) (by simp only [mn]; omega) (by simp only [mx]; omega) ?_
   refine cf (by simp) ?_
   refine .as ((i + 1 : Nat) : Int) (by omega) (by simp only [mn]; omega) (by simp only [mx]; omega) ?_
   exact ⟨i + 1, by omega, by omega, ⟨⟨rfl, rfl, rfl, rfl, rfl, trivial⟩, .nil, rfl⟩⟩
 · obtain rfl : i = xss.length := by omega
   rw [flat_all]
   refine co (fun w _ => hg w) (fun r hr => ?_)
   refine lp qc (fun x : Nat × Sx.Own => x.1 ≤ xss.length ∧ Rw 1 (qbV xss x.1).length x.2 (qbV xss x.1)) (fun x => ⟨[(6, sv x.2 (qbV xss x.1).length), (25, .slice (some ⟨pb, po, none⟩) xss.length kc), (26, .int .i64 xss.length), (27, .int .i64 x.1)], [se x.2 (qbV xss x.1) 5], []⟩) (fun x => xss.length - x.1) (0, r) ⟨Nat.zero_le _, hr⟩ ⟨⟨rfl, rfl, rfl, rfl, trivial⟩, .cons .nil, rfl⟩ ?_
   rintro ⟨i, r⟩ ⟨hi, hR⟩
   refine cd (fun h => ?_) (fun h => ?_)
   · have hlt : i < xss.length := by simp only at h; omega
     have hrd := hx i vs[i] xss[i] (by simp [hlen, hlt]) (by simp [hlt])
     obtain ⟨a, c, hv, _⟩ := hx i vs[i] xss[i] (by simp [hlen, hlt]) (by simp [hlt])
     have hle := qcU xss (i + 1)
     have hsucc := qeZ xss i hlt
     have hsl := congrArg List.length hsucc
     rw [List.length_append] at hsl
     refine ⟨by omega, by omega, ?_⟩
     refine ldo (v := .slice a xss[i].length c) (by rw [← hv, qi, qh]; simpa using hp i _ (by simp [hlen, hlt])) hpb ?_
     refine ap (n := (qbV xss i).length) (m := xss[i].length) (news := xss[i]) 0 qc rfl Qj rfl rfl hR (fun w' hs => ?_) (by omega) (by unfold maxLen; omega) (fun r' hR' => ?_)
     · rw [← hv]; exact (hrd.below hs.below).src Tryz.underlying48 (h1 _ (List.getElem_mem hlt))
     · refine .as ((i + 1 : Nat) : Int) (by simp only; omega) (by simp only [mn]; omega) (by simp only [mx]; omega) ?_
       rw [← hsl, ← hsucc] at *
       exact ⟨(i + 1, r'), ⟨by omega, hR'⟩, by simp only; omega, ⟨⟨rfl, rfl, rfl, rfl, trivial⟩, .cons .nil, rfl⟩⟩
   · obtain rfl : i = xss.length := by simp only at h hi; omega
     simp only [flat_all] at hR ⊢
     refine ⟨fun w1 hs1 => ⟨r, rfl, hR, Qx hs1 rfl 0 rfl, hs1.below⟩⟩
end
section
open Go.RowKit Go.Sx
abbrev Wd := BitVec 64
def ux (x : Wd) : Int := (x.toNat : Int)
def uv (x : Wd) : Value := .int .u64 (ux x)
def rot (x : Wd) (n : Nat) : Wd := x >>> n ||| x <<< (64 - n)
def zo (x : Wd) (a b c : Nat) (s : Bool) : Wd := rot x a ^^^ rot x b ^^^ (if s then x >>> c else rot x c)
theorem ux_lt (x : Wd) : 0 ≤ ux x ∧ ux x < 18446744073709551616 := by unfold ux; have := x.isLt; omega
theorem qdk : (2 : Nat) ^ 64 = 18446744073709551616 := by decide +kernel
theorem qbi (x : Wd) : IntKind.u64.wrap (x.toNat : Int) = ux x := by
 have := x.isLt
 exact qai .u64 _ (by simp only [mn]; omega) (by simp only [mx]; omega)
theorem qca (x : Wd) : BitVec.ofInt 64 (ux x) = x := by unfold ux; rw [BitVec.ofInt_natCast]; simp
theorem qbj (x y : Wd) : Qz .or .u64 (ux x) (ux y) = ux (x ||| y) := by
 show IntKind.u64.wrap ((BitVec.ofInt 64 (ux x) ||| BitVec.ofInt 64 (ux y)).toNat : Int) = _
 rw [qca, qca, qbi]
theorem zf (x y : Wd) : Qz .and .u64 (ux x) (ux y) = ux (x &&& y) := by
 show IntKind.u64.wrap ((BitVec.ofInt 64 (ux x) &&& BitVec.ofInt 64 (ux y)).toNat : Int) = _
 rw [qca, qca, qbi]
theorem QU (x y : Wd) : Qz .xor .u64 (ux x) (ux y) = ux (x ^^^ y) := by
 show IntKind.u64.wrap ((BitVec.ofInt 64 (ux x) ^^^ BitVec.ofInt 64 (ux y)).toNat : Int) = _
 rw [qca, qca, qbi]
theorem u_not (x : Wd) : notI .u64 (ux x) = ux (~~~x) := by
 have h : (if IntKind.u64.signed then -1 else IntKind.u64.max) = ux (BitVec.allOnes 64) := by decide
 unfold notI
 rw [h, QU, BitVec.allOnes_xor]
theorem u_neg (x : Wd) : 18446744073709551615 - ux x = ux (~~~x) := by
 have := x.isLt
 unfold ux; rw [BitVec.toNat_not]; omega
theorem qC (x y : Wd) : (ux x + ux y) % 18446744073709551616 = ux (x + y) := by
 unfold ux; rw [BitVec.toNat_add, qdk, Int.natCast_emod, Int.natCast_add]; rfl
theorem u_mul (x : Wd) (k : Nat) (hk : k < 18446744073709551616) : (ux x * (k : Int)) % 18446744073709551616 = ux (x * BitVec.ofNat 64 k) := by
 unfold ux; rw [BitVec.toNat_mul, BitVec.toNat_ofNat]
 have : k % 2 ^ 64 = k := Nat.mod_eq_of_lt (by omega)
 rw [this, qdk, Int.natCast_emod, Int.natCast_mul]; rfl
theorem Zs (x : Wd) (n : Nat) (hn : n ≤ 64) (i : Int) (hi : i = n) : (ux x).fdiv (2 ^ (min i.toNat IntKind.u64.bits)) = ux (x >>> n) := by
 subst hi
 show (ux x).fdiv (2 ^ (min ((n : Nat) : Int).toNat 64)) = _
 rw [Int.toNat_natCast, Nat.min_eq_left hn, Int.fdiv_eq_ediv_of_nonneg _ (by exact Int.le_of_lt (Int.pow_pos (by decide)))]
 unfold ux; rw [BitVec.toNat_ushiftRight, Nat.shiftRight_eq_div_pow, Int.natCast_ediv, Int.natCast_pow]; rfl
theorem qdj (x : Wd) (n : Nat) (hn : n ≤ 64) (i : Int) (hi : i = n) : (ux x * 2 ^ (min i.toNat IntKind.u64.bits)) % 18446744073709551616 = ux (x <<< n) := by
 subst hi
 show (ux x * 2 ^ (min ((n : Nat) : Int).toNat 64)) % 18446744073709551616 = _
 rw [Int.toNat_natCast, Nat.min_eq_left hn]
 unfold ux; rw [BitVec.toNat_shiftLeft, Nat.shiftLeft_eq, qdk, Int.natCast_emod, Int.natCast_mul, Int.natCast_pow]; rfl
theorem rot_add (x : Wd) (n : Nat) (hn : n < 64) : x >>> n + x <<< (64 - n) = rot x n := by
 unfold rot
 apply BitVec.add_eq_or_of_and_eq_zero
 apply BitVec.eq_of_getLsbD_eq
 intro i hi
 simp only [BitVec.getLsbD_and, BitVec.getLsbD_ushiftRight, BitVec.getLsbD_shiftLeft, BitVec.getLsbD_zero]
 by_cases h : i < 64 - n
 · simp [h]
 · have : x.getLsbD (n + i) = false := BitVec.getLsbD_of_ge _ _ (by omega)
   simp [this]
theorem ch_add (e f g : Wd) : (e &&& f) + (~~~e &&& g) = (e &&& f ||| ~~~e &&& g) := by
 apply BitVec.add_eq_or_of_and_eq_zero
 apply BitVec.eq_of_getLsbD_eq
 intro i hi
 simp only [BitVec.getLsbD_and, BitVec.getLsbD_not, BitVec.getLsbD_zero]
 cases e.getLsbD i <;> simp
def bw (x : Wd) (b : UInt8) : Wd := x <<< 8 ||| BitVec.ofNat 64 b.toNat
theorem qbw (b : UInt8) : ux (BitVec.ofNat 64 b.toNat) = (b.toNat : Int) := by
 have := b.toNat_lt
 unfold ux; rw [BitVec.toNat_ofNat, Nat.mod_eq_of_lt (by omega)]
theorem bw_add (x : Wd) (b : UInt8) : x * BitVec.ofNat 64 256 + BitVec.ofNat 64 b.toNat = bw x b := by
 unfold bw
 have e : x * BitVec.ofNat 64 256 = x <<< 8 := by
  apply BitVec.eq_of_toNat_eq
  rw [BitVec.toNat_shiftLeft, Nat.shiftLeft_eq, BitVec.toNat_mul]; rfl
 rw [e]
 apply BitVec.add_eq_or_of_and_eq_zero
 apply BitVec.eq_of_getLsbD_eq
 intro i hi
 simp only [BitVec.getLsbD_and, BitVec.getLsbD_shiftLeft, BitVec.getLsbD_ofNat]
 by_cases h : i < 8
 · simp [h]
 · have : b.toNat.testBit i = false := by
    apply Nat.testBit_lt_two_pow
    exact Nat.lt_of_lt_of_le b.toNat_lt (Nat.pow_le_pow_right (by decide) (by omega))
   simp [this]
structure H8 where
 (a b c d e f g h : Wd)
def H8.l (s : H8) : List Wd := [s.a, s.b, s.c, s.d, s.e, s.f, s.g, s.h]
def H8.add (s t : H8) : H8 := ⟨s.a + t.a, s.b + t.b, s.c + t.c, s.d + t.d, s.e + t.e, s.f + t.f, s.g + t.g, s.h + t.h⟩
def rndU (s : H8) (k w : Wd) : Wd := s.h + zo s.e 14 18 41 false + (s.e &&& s.f ||| ~~~s.e &&& s.g) + k + w
def rndV (s : H8) : Wd := zo s.a 28 34 39 false + (s.a &&& s.b ||| s.a &&& s.c ||| s.b &&& s.c)
def rnd (s : H8) (k w : Wd) : H8 := ⟨rndU s k w + rndV s, s.a, s.b, s.c, s.d + rndU s k w, s.e, s.f, s.g⟩
def zD (w : List Wd) : Wd := zo (w.getD (w.length - 2) 0) 19 61 6 true + w.getD (w.length - 7) 0 + zo (w.getD (w.length - 15) 0) 1 8 7 true + w.getD (w.length - 16) 0
def qK : Nat → List Wd → List Wd
 | 0, w => w
 | k + 1, w => qK k w ++ [zD (qK k w)]
theorem zR (k : Nat) (w : List Wd) : (qK k w).length = w.length + k := by
 induction k with
 | zero => rfl
 | succ k ih => rw [qK, List.length_append, ih]; simp; omega
def QC (k w : List Wd) (s : H8) : Nat → H8
 | 0 => s
 | t + 1 => rnd (QC k w s t) (k.getD t 0) (w.getD t 0)
def be (bs : List UInt8) : Wd := bs.foldl bw 0
theorem qb6 (bs : List UInt8) (b : UInt8) : be (bs ++ [b]) = bw (be bs) b := by unfold be; rw [List.foldl_append]; rfl
def qp (p : List UInt8) : List Wd := (List.range 16).map fun t => be ((p.drop (8 * t)).take 8)
def ktab : List Wd := [0x428a2f98d728ae22, 0x7137449123ef65cd, 0xb5c0fbcfec4d3b2f, 0xe9b5dba58189dbbc, 0x3956c25bf348b538, 0x59f111f1b605d019, 0x923f82a4af194f9b, 0xab1c5ed5da6d8118, 0xd807aa98a3030242, 0x12835b0145706fbe, 0x243185be4ee4b28c, 0x550c7dc3d5ffb4e2, 0x72be5d74f27b896f, 0x80deb1fe3b1696b1, 0x9bdc06a725c71235, 0xc19bf174cf692694, 0xe49b69c19ef14ad2, 0xefbe4786384f25e3, 0x0fc19dc68b8cd5b5, 0x240ca1cc77ac9c65, 0x2de92c6f592b0275, 0x4a7484aa6ea6e483, 0x5cb0a9dcbd41fbd4, 0x76f988da831153b5, 0x983e5152ee66dfab, 0xa831c66d2db43210, 0xb00327c898fb213f, 0xbf597fc7beef0ee4, 0xc6e00bf33da88fc2, 0xd5a79147930aa725, 0x06ca6351e003826f, 0x142929670a0e6e70, 0x27b70a8546d22ffc, 0x2e1b21385c26c926, 0x4d2c6dfc5ac42aed, 0x53380d139d95b3df, 0x650a73548baf63de, 0x766a0abb3c77b2a8, 0x81c2c92e47edaee6, 0x92722c851482353b, 0xa2bfe8a14cf10364, 0xa81a664bbc423001, 0xc24b8b70d0f89791, 0xc76c51a30654be30, 0xd192e819d6ef5218, 0xd69906245565a910, 0xf40e35855771202a, 0x106aa07032bbd1b8, 0x19a4c116b8d2d0c8, 0x1e376c085141ab53, 0x2748774cdf8eeb99, 0x34b0bcb5e19b48a8, 0x391c0cb3c5c95a63, 0x4ed8aa4ae3418acb, 0x5b9cca4f7763e373, 0x682e6ff3d6b2b8a3, 0x748f82ee5defb2fc, 0x78a5636f43172f60, 0x84c87814a1f0ab72, 0x8cc702081a6439ec, 0x90befffa23631e28, 0xa4506cebde82bde9, 0xbef9a3f7b2c67915, 0xc67178f2e372532b, 0xca273eceea26619c, 0xd186b8c721c0c207, 0xeada7dd6cde0eb1e, 0xf57d4f7fee6ed178, 0x06f067aa72176fba, 0x0a637dc5a2c898a6, 0x113f9804bef90dae, 0x1b710b35131c471b, 0x28db77f523047d84, 0x32caab7b40c72493, 0x3c9ebe0a15c9bebc, 0x431d67c49c100d4c, 0x4cc5d4becb3e42b6, 0x597f299cfc657e2a, 0x5fcb6fab3ad6faec, 0x6c44198c4a475817]
def kroots : H8 := ⟨0x6a09e667f3bcc908, 0xbb67ae8584caa73b, 0x3c6ef372fe94f82b, 0xa54ff53a5f1d36f1, 0x510e527fade682d1, 0x9b05688c2b3e6c1f, 0x1f83d9abfb41bd6b, 0x5be0cd19137e2179⟩
def Zy (s : H8) (p : List UInt8) : H8 := s.add (QC ktab (qK 64 (qp p)) s 80)
def qA (t : List UInt8) : Nat → H8
 | 0 => kroots
 | i + 1 => Zy (qA t i) ((t.drop (128 * i)).take 128)
def qL (n j : Nat) : UInt8 := UInt8.ofNat (8 * n / 256 ^ (15 - j) % 256)
def qr (n : Nat) : Nat := (239 - n % 128) % 128
def Qk (bs : List UInt8) : List UInt8 := bs ++ [128] ++ List.replicate (qr bs.length) 0 ++ (List.range 16).map (qL bs.length)
theorem ZA (bs : List UInt8) : (Qk bs).length % 128 = 0 ∧ (Qk bs).length = bs.length + 17 + qr bs.length := by
 unfold Qk qr
 simp only [List.length_append, List.length_replicate, List.length_map, List.length_range, List.length_cons, List.length_nil]
 omega
def Qd (x : Wd) : List UInt8 := (List.range 8).map fun i => UInt8.ofNat (x.toNat / 2 ^ (56 - 8 * i) % 256)
def zd (s : H8) : List UInt8 := s.l.flatMap Qd
def shaB (bs : List UInt8) : List UInt8 := zd (qA (Qk bs) ((Qk bs).length / 128))
theorem shaB_len (bs : List UInt8) : (shaB bs).length = 64 := by
 unfold shaB zd
 simp [H8.l, Qd]
theorem ZB : ktab.length = 80 := by decide +kernel
end
end Go.Proofs.YtbgefoamhdgnaaaGreatDoor
namespace Go.Sx
section
open Go Go.RowKit
section
variable {P : Program}
theorem eql_ints (t e : TypeId) (n : Nat) (kd : IntKind) (ht : P.underlying t = some (.array n e)) (he : P.underlying e = some (.int kd)) (hz : zn P e 1 = true) (c d : Array Value) (f g : Nat → Int)
 (hc : ∀ i, i < n → c[i]? = some (.int kd (f i))) (hd : ∀ i, i < n → d[i]? = some (.int kd (g i))) (k : Nat) (w : World) :
 (Op.equalIn (k + 2) t (.agg c) (.agg d)).run P w = .ok ((List.range n).all fun i => f i == g i) w := by
 have hsz : ∀ w, (sizeOf e).run P w = .ok 1 w := fun w => by rw [Qi (zN hz)]
 rw [List.range_eq_range', Op.equalIn]
 simp only [Sem.run_bind, run_underlying ht, Result.andThen_ok, hsz, Std.Legacy.Range.forIn_eq_forIn_range', Std.Legacy.Range.size, Nat.sub_zero, Nat.add_sub_cancel, Nat.div_one]
 have hl : ∀ i ∈ List.range' 0 n 1, i < n := fun i hi => by simpa using (List.mem_range'_1.1 hi).2
 generalize List.range' 0 n 1 = l at hl ⊢
 induction l with
 | nil => simp
 | cons i l ih =>
  have hi : i < n := hl i (by simp)
  have px : ∀ (c : Array Value) (h : Nat → Int), (∀ i, i < n → c[i]? = some (.int kd (h i))) → (part e c (i * 1)).run P w = .ok (.int kd (h i)) w := fun c h hh => by
   have hg := hh i hi
   simp [part, isAgg, run_underlying he, hg]
  simp only [List.forIn_cons, Sem.run_bind, px c f hc, px d g hd, run_equalIn_int w k e kd kd _ _ he, Result.andThen_ok, List.all_cons]
  cases hb : (f i == g i)
  · simp
  · simp only [Bool.not_true, Bool.false_eq_true, if_false, Sem.run_pure, Result.andThen_ok, Bool.true_and]
    exact ih fun j hj => hl j (by simp [hj])
theorem qcz {op : BinOp} {t : TypeId} (hg : P.eqGuardType P.depth t = false) {x y : Operand} (c d : Array Value) (w : World) : (eqGuard op t x y (.agg c) (.agg d)).run P w = .ok () w := by
 cases op <;> simp [eqGuard, hg]
theorem eql_bytes (t e : TypeId) (n : Nat) (ht : P.underlying t = some (.array n e)) (he : P.underlying e = some (.int .u8)) (hz : zn P e 1 = true) (hg : P.eqGuardType P.depth t = false) (x y : List UInt8) (hx : x.length = n) (hy : y.length = n) (a b : Operand) (w : World) :
 (do eqGuard .eql t a b (.agg (Lib.byteCells x).toArray) (.agg (Lib.byteCells y).toArray); binOp .eql t (.agg (Lib.byteCells x).toArray) (.agg (Lib.byteCells y).toArray) : Sem Value).run P w = .ok (.bool (decide (x = y))) w := by
 have h0 := eql_ints t e n .u8 ht he hz (Lib.byteCells x).toArray (Lib.byteCells y).toArray (fun i => ((x.getD i 0).toNat : Int)) (fun i => ((y.getD i 0).toNat : Int))
  (fun i hi => by simp [Lib.byteCells, List.getD, hx, hi]) (fun i hi => by simp [Lib.byteCells, List.getD, hy, hi]) 9998 w
 simp only [Sem.run_bind, qcz hg, Result.andThen_ok]
 rw [run_eql_struct, h0]
 have : ((List.range n).all fun i => ((x.getD i 0).toNat : Int) == ((y.getD i 0).toNat : Int)) = decide (x = y) := by
  rw [Bool.eq_iff_iff]
  simp only [List.all_eq_true, List.mem_range, beq_iff_eq, decide_eq_true_eq]
  constructor
  · intro h
    refine List.ext_getElem (by omega) fun i h1 h2 => ?_
    have := h i (by omega)
    simp only [List.getD, List.getElem?_eq_getElem h1, List.getElem?_eq_getElem h2, Option.getD_some] at this
    exact UInt8.toNat_inj.1 (by omega)
  · rintro rfl i _; rfl
 rw [this]; rfl
end
theorem eqB {C : Cx} {L : List Ent} {t e : TypeId} {n : Nat} {x y : List UInt8} {a b : Operand} {next : Value → List Ent → Prop} (ht : C.P.underlying t = some (.array n e)) (he : C.P.underlying e = some (.int .u8)) (hz : zn C.P e 1 = true) (hg : C.P.eqGuardType C.P.depth t = false) (hx : x.length = n) (hy : y.length = n)
 (go : next (.bool (decide (x = y))) L) : ZV C (do eqGuard .eql t a b (.agg (Lib.byteCells x).toArray) (.agg (Lib.byteCells y).toArray); binOp .eql t (.agg (Lib.byteCells x).toArray) (.agg (Lib.byteCells y).toArray)) L next :=
 semV (fun w _ => eql_bytes t e n ht he hz hg x y hx hy a b w) go
end
section
open Go Go.RowKit
variable {C : Cx} {L : List Ent}
structure Turns (w w' : World) (r r' : Res) : Prop where
 os : w'.os = w.os
 tape : w'.tape = w.tape
 output : w'.output = w.output
 size : w.heap.size ≤ w'.heap.size
 old : ∀ k, k < w.heap.size → ¬ r.w k → w'.heap[k]? = w.heap[k]?
 ok : r'.p w'
 W : ∀ k, r'.w k → r.w k ∨ w.heap.size ≤ k
 A : ∀ k, r'.w k ∨ r'.r k → (r.w k ∨ r.r k) ∨ w.heap.size ≤ k
theorem Turns.of_below {w w' : World} {r : Res} (h : r.p w) (hb : Below w.heap.size w w') : Turns w w' r r :=
 ⟨hb.os, hb.tape, hb.output, hb.size, fun k hk _ => hb.block k hk, r.st w w' (fun k hk => hb.block k (r.bd w h k hk)) h, fun k h => .inl h, fun k h => .inl h⟩
theorem St.turn {M : Bks} {B w w' : World} (h : St M B w L) {k : Nat} {r r' : Res} (hk : L[k]? = some (rs r)) (ht : Turns w w' r r') : St M B w' (L.set k (rs r')) :=
 h.upd hk ht.size (by simpa using ht.ok) (fun j hj hn => ht.old j hj (by simpa using hn)) ht.os ht.tape ht.output (fun j hj => by simpa using ht.W j (by simpa using hj)) (fun j hj => by simpa using ht.A j (by simpa using hj))
theorem Turns.of_st {M : Bks} {w w' : World} {r r' : Res} (h : St M w w' L) (hM : ∀ k, InM M k → r.w k) (ok : r'.p w') (W : ∀ k, r'.w k → r.w k ∨ w.heap.size ≤ k) (A : ∀ k, r'.w k ∨ r'.r k → (r.w k ∨ r.r k) ∨ w.heap.size ≤ k) : Turns w w' r r' :=
 ⟨h.os, h.tape, h.output, h.size, fun k hk hn => h.old k hk fun hm => hn (hM k hm), ok, W, A⟩
theorem cT (k : Nat) {g : FuncId} {vs : List Value} {α : Type} {Φ : α → Prop} {v : α → Value} {r : Res} {r' : α → Res} {next : Value → List Ent → Prop} (hk : L[k]? = some (rs r))
 (h : ∀ w, St C.M C.B w L → Calls C.P g vs.toArray w fun e w' => ∃ x, Φ x ∧ e = .returned (v x) ∧ Turns w w' r (r' x)) (go : ∀ x, Φ x → next (v x) (L.set k (rs (r' x)))) : zJ C g vs L next :=
 ⟨fun w hs => (h w hs).mono fun e w' ⟨x, hx, he, ht⟩ => ⟨_, _, he, hs.turn hk ht, go x hx⟩⟩
theorem cM {g : FuncId} {vs : List Value} {α : Type} {Φ : α → Prop} {v : α → Value} {r' : α → Res} {next : Value → List Ent → Prop}
 (h : ∀ w, St C.M C.B w L → Calls C.P g vs.toArray w fun e w' => ∃ x, Φ x ∧ e = .returned (v x) ∧ Below w.heap.size w w' ∧ (r' x).p w' ∧ (∀ k, (r' x).w k → w.heap.size ≤ k) ∧ ∀ k, (r' x).r k → w.heap.size ≤ k ∨ ∃ f ∈ L, f.A k ∧ ¬ f.W k)
 (go : ∀ x, Φ x → next (v x) (L ++ [rs (r' x)])) : zJ C g vs L next :=
 ⟨fun w hs => (h w hs).mono fun e w' ⟨x, hx, he, hb, hp, hw, ha⟩ => ⟨_, _, he, hs.push hb (by simpa using hp) (fun k hk => hw k (by simpa using hk)) (fun k hk => by
  rcases (rsA _ _).1 hk with h | h
  · exact .inl (hw k h)
  · exact ha k h), go x hx⟩⟩
abbrev Es (κ : Type) := List (κ × Value × Nat)
def zH {κ : Type} (ke : κ → Value) (e : κ × Value × Nat) : MapEntry := ⟨ke e.1, e.2.1, e.2.2⟩
def qc3 {κ : Type} (ke : κ → Value) (fs : Es κ) (clk : Nat) : Obj := .map (fs.map (zH ke)).toArray clk
abbrev me {κ : Type} (b : Nat) (ke : κ → Value) (fs : Es κ) (clk : Nat) : Ent := ⟨b, some (qc3 ke fs clk), false, none⟩
def QF {κ : Type} [DecidableEq κ] (k : κ) : Es κ → Nat → Option (Nat × Value)
 | [], _ => none
 | e :: l, i => if k = e.1 then some (i, e.2.1) else QF k l (i + 1)
structure KeyOk {κ : Type} [DecidableEq κ] (P : Program) (kt : TypeId) (ke : κ → Value) : Prop where
 check : ∀ k b w, (Instr.checkKey b 10000 kt (ke k)).run P w = .ok () w
 find : ∀ k (fs : Es κ) w, (Instr.findKey kt (ke k) (fs.map (zH ke))).run P w = .ok (QF k fs 0) w
 stays : ∀ k w, (Instr.keyThatStays (ke k) (ke k)).run P w = .ok (ke k) w
section maps
variable {κ : Type} [DecidableEq κ] {ke : κ → Value}
def getS (k : κ) (fs : Es κ) : Option Value := (QF k fs 0).map (·.2)
def Zc (k : κ) (v : Value) (clk : Nat) : Es κ → Es κ
 | [] => [(k, v, clk)]
 | e :: l => if k = e.1 then (k, v, e.2.2) :: l else e :: Zc k v clk l
theorem zt (k : κ) (fs : Es κ) (i : Nat) : QF k fs i = (QF k fs 0).map fun p => (p.1 + i, p.2) := by
 induction fs generalizing i with
 | nil => rfl
 | cons e l ih =>
  unfold QF
  by_cases h : k = e.1
  · simp [h]
  · simp only [h, if_false]; rw [ih (i + 1), ih (0 + 1)]; cases QF k l 0 <;> simp; omega
theorem qcB (k : κ) (e : κ × Value × Nat) (l : Es κ) : getS k (e :: l) = if k = e.1 then some e.2.1 else getS k l := by
 unfold getS
 rw [QF]
 by_cases h : k = e.1
 · simp [h]
 · simp only [h, if_false]; rw [zt, Option.map_map]; rfl
theorem set_found {k : κ} {v : Value} {clk : Nat} {fs : Es κ} {i : Nat} {u : Value} (h : QF k fs 0 = some (i, u)) : Zc k v clk fs = fs.modify i fun e => (k, v, e.2.2) := by
 induction fs generalizing i with
 | nil => cases h
 | cons e l ih =>
  unfold QF at h
  unfold Zc
  split at h
  · rename_i hk
    injection h with h; injection h with h1 h2
    subst h1
    rw [if_pos hk]; simp
  · rename_i hk
    rw [if_neg hk]
    rw [zt] at h
    cases hf : QF k l 0 with
    | none => rw [hf] at h; cases h
    | some p =>
     rw [hf] at h
     injection h with h; injection h with h1 h2
     subst h1
     rw [ih (i := p.1) (by rw [hf, ← h2])]
     simp
theorem set_new {k : κ} {v : Value} {clk : Nat} {fs : Es κ} (h : QF k fs 0 = none) : Zc k v clk fs = fs ++ [(k, v, clk)] := by
 induction fs with
 | nil => rfl
 | cons e l ih =>
  unfold QF at h
  unfold Zc
  split at h
  · cases h
  · rename_i hk
    rw [if_neg hk]
    rw [zt] at h
    cases hf : QF k l 0 with
    | none => rw [ih hf]; rfl
    | some p => rw [hf] at h; cases h
theorem qam {P : Program} {w : World} {b : Nat} {o : Obj} (h : w.heap[b]? = some o) (hc : ∀ c t f, o ≠ .cells c t f) : (getObj b).run P w = .ok o w := by
 simp only [getObj, Sem.run, h]
theorem qal {P : Program} {w : World} {b : Nat} {o o' : Obj} (h : w.heap[b]? = some o) (hc : ∀ c t f, o ≠ .cells c t f) : (setObj b o').run P w = .ok () (w.putObj b o') := by
 simp only [setObj, Sem.run, h, World.putObj]
theorem St.put {M : Bks} {B w : World} (h : St M B w L) {k b : Nat} {o o' : Obj} (hk : L[k]? = some ⟨b, some o, false, none⟩) : St M B (w.putObj b o') (L.set k ⟨b, some o', false, none⟩) := by
 have hlt := (Array.getElem?_eq_some_iff.1 (h.nth hk)).1
 exact h.set hk (by rw [World.putObj_size]; exact Nat.le_refl _) (World.putObj_heap_same hlt) (fun j _ hj => World.putObj_heap_other hj) rfl rfl rfl
def clkS (k : κ) (fs : Es κ) (clk : Nat) : Nat := if (getS k fs).isSome then clk else clk + 1
end maps
end
section
open Go Go.RowKit
variable {C : Cx} {L : List Ent}
section maps
variable {κ : Type} {ke : κ → Value}
theorem mkm {t : TypeId} {next : Value → List Ent → Prop} (ke : κ → Value) (go : ∀ b, next (.map (some b)) (L ++ [me b ke [] 0])) : ZV C (Instr.makeMap t none) L next :=
 ⟨fun w hs => ⟨_, _, _, by simp only [Instr.makeMap, Sem.run_bind, run_newObj_alloc, Result.andThen_ok, Sem.run_pure], hs.alloc (.map #[] 0), go _⟩⟩
theorem St.drew2 {M : Bks} {B w : World} (h : St M B w L) (n : Nat) : St M B { w with drawn := n } L := ⟨h.os, h.tape, h.output, h.size, h.old, fun e he => (h.ok e he).same fun k hk => rfl, h.ownW, h.apart⟩
end maps
end
end Go.Sx
