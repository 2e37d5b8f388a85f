/- For all texts, steps and numbers the law AuditFollows returns true, and they read as they did; no condition. -/
import Derived.Laws.Rows
import Derived.Laws.Tables
import Derived.Deep.MidRow
import Derived.Great.BuildSlice
import Derived.OwnWalk
import Derived.Outline
import Derived.OrdersHeld
import Derived.Deep.RegionHeld3
import Derived.BigRegion
import Derived.Laws.StructEq
import Derived.Test.YtbgefoamhdgnaaaGreatDoorFb2
set_option maxRecDepth 100000
set_option maxHeartbeats 16000000
set_option linter.unusedVariables false
set_option linter.unusedSimpArgs false
namespace Go.Proofs.YtbgefoamhdgnaaaGreatDoor
section
open Go.RowKit Go.Lib
def Qc (kd : IntKind) (k : Nat) (f : Nat → Int) : List Value := (List.range k).map (fun i => Value.int kd (f i))
def row (kd : IntKind) (k : Nat) (f : Nat → Int) : Array Value := (Qc kd k f).toArray
def upd (f : Nat → Int) (i : Nat) (x : Int) : Nat → Int := fun j => if j = i then x else f j
theorem qu (f : Nat → Int) (i : Nat) (x : Int) : upd f i x i = x := by simp [upd]
theorem qs (f : Nat → Int) (i j : Nat) (x : Int) (h : j ≠ i) : upd f i x j = f j := by simp [upd, h]
theorem zy (kd : IntKind) (k : Nat) (f : Nat → Int) : (Qc kd k f).length = k := by simp [Qc]
theorem qP (kd : IntKind) (k : Nat) (f : Nat → Int) (i : Nat) (h : i < k) : (row kd k f)[i]? = some (.int kd (f i)) := by
 simp [row, Qc, h]
theorem qR (kd : IntKind) (k : Nat) (f : Nat → Int) : (row kd k f).size = k := by simp [row, Qc]
theorem ZY (kd : IntKind) (k : Nat) (f : Nat → Int) (i : Nat) (h : ¬ i < k) : (row kd k f)[i]? = none := by
 simp [qR]; omega
theorem Qb (kd : IntKind) (k : Nat) (f g : Nat → Int) (h : ∀ i, i < k → f i = g i) : row kd k f = row kd k g := by
 apply Array.ext_getElem?
 intro j
 by_cases hj : j < k
 · rw [qP kd k _ j hj, qP kd k _ j hj, h j hj]
 · rw [ZY kd k _ j hj, ZY kd k _ j hj]
theorem zS (kd : IntKind) (k : Nat) (f : Nat → Int) (i : Nat) (x : Int) : (row kd k f).setIfInBounds i (.int kd x) = row kd k (upd f i x) := by
 apply Array.ext_getElem?
 intro j
 rw [Array.getElem?_setIfInBounds]
 simp only [qR]
 by_cases hj : j < k
 · rw [qP kd k _ j hj, qP kd k _ j hj]
   unfold upd
   by_cases h : i = j
   · subst h; simp [hj]
   · have : ¬ j = i := fun e => h e.symm
     simp [h, this]
 · rw [ZY _ _ _ _ hj, ZY _ _ _ _ hj]; simp; omega
theorem QA (kd : IntKind) (k : Nat) (f : Nat → Int) : (row kd k f).all (·.oneCell') = true := by
 simp [row, Qc, List.all_eq_true, Value.oneCell']
def Has (w : World) (b : Nat) (c : Array Value) (t : TypeId) : Prop := w.heap[b]? = some (.cells c t (0, 0))
section has
variable {w w' : World} {b : Nat} {c : Array Value} {t : TypeId}
theorem Has.lt (h : Has w b c t) : b < w.heap.size := (Array.getElem?_eq_some_iff.1 h).1
theorem Has.cellAt (h : Has w b c t) (i : Nat) : w.cell? ⟨b, i, none⟩ = c[i]? := cell_of_row w b i c t _ h
theorem Has.cell {kd : IntKind} {k : Nat} {f : Nat → Int} (h : Has w b (row kd k f) t) (i : Nat) (hi : i < k) : w.cell? ⟨b, i, none⟩ = some (.int kd (f i)) := by
 rw [h.cellAt, qP kd k f i hi]
theorem Has.range {l : List Value} (h : Has w b l.toArray t) : w.rangeAt b 0 l := fun j v hv => by
 rw [Nat.zero_add, h.cellAt]; simpa using hv
theorem Has.frozen (h : Has w b c t) (i : Nat) : w.frozen? ⟨b, i, none⟩ = false := frozen_of_row w b i c t h
theorem Has.setAt (h : Has w b c t) (i : Nat) (v : Value) : Has (w.setCell ⟨b, i, none⟩ v) b (c.setIfInBounds i v) t := heap_setCell_same w b i c t v h
theorem Has.set {kd : IntKind} {k : Nat} {f : Nat → Int} (h : Has w b (row kd k f) t) (i : Nat) (x : Int) : Has (w.setCell ⟨b, i, none⟩ (.int kd x)) b (row kd k (upd f i x)) t := by
 have := h.setAt i (.int kd x)
 rwa [zS] at this
theorem Has.other (h : Has w b c t) (a : Addr) (v : Value) (hb : b ≠ a.block) : Has (w.setCell a v) b c t := (heap_setCell_other w a b v hb).trans h
theorem Has.drewN (h : Has w b c t) (n : Nat) : Has (w.drewN n) b c t := h
theorem Has.alloc (h : Has w b c t) (o : Obj) : Has (w.alloc o) b c t := (Below.heap_alloc w o b h.lt).trans h
theorem Has.new (w : World) (c : Array Value) (t : TypeId) : Has (w.alloc (.cells c t)) w.heap.size c t := heap_alloc_new w _
theorem Has.new1 (w : World) (A : Obj) (c : Array Value) (t : TypeId) : Has ((w.alloc A).alloc (.cells c t)) (w.heap.size + 1) c t := by
 have := Has.new (w.alloc A) c t
 simpa using this
theorem Has.new2 (w : World) (A B : Obj) (c : Array Value) (t : TypeId) : Has (((w.alloc A).alloc B).alloc (.cells c t)) (w.heap.size + 1 + 1) c t := by
 have := Has.new ((w.alloc A).alloc B) c t
 simpa using this
theorem Has.new3 (w : World) (A B C : Obj) (c : Array Value) (t : TypeId) : Has ((((w.alloc A).alloc B).alloc C).alloc (.cells c t)) (w.heap.size + 1 + 1 + 1) c t := by
 have := Has.new (((w.alloc A).alloc B).alloc C) c t
 simpa using this
theorem Has.below {B : Nat} (h : Has w b c t) (hb : Below B w w') (hB : b < B) : Has w' b c t := (hb.block b hB).trans h
theorem Has.setRow (h : Has w b c t) (c' : Array Value) : Has (w.setRow b c') b c' t := setRow_heap w b c c' t _ h
theorem Has.setRow_other (h : Has w b c t) (g : Nat) (c' : Array Value) (hg : b ≠ g) : Has (w.setRow g c') b c t := (Go.setRow_other w g b c' hg).trans h
end has
def HasN (w : World) (b n : Nat) (t : TypeId) : Prop := ∃ c : Array Value, c.size = n ∧ Has w b c t
section hasn
variable {w w' : World} {b n : Nat} {t : TypeId}
theorem Has.toN {c : Array Value} (h : Has w b c t) (hn : c.size = n) : HasN w b n t := ⟨c, hn, h⟩
theorem HasN.new (w : World) (c : Array Value) (t : TypeId) (n : Nat) (hn : c.size = n) : HasN (w.alloc (.cells c t)) w.heap.size n t := ⟨c, hn, Has.new w c t⟩
theorem HasN.new1 (w : World) (A : Obj) (c : Array Value) (t : TypeId) (n : Nat) (hn : c.size = n) : HasN ((w.alloc A).alloc (.cells c t)) (w.heap.size + 1) n t := by
 have := HasN.new (w.alloc A) c t n hn
 simpa using this
theorem HasN.new2 (w : World) (A B : Obj) (c : Array Value) (t : TypeId) (n : Nat) (hn : c.size = n) : HasN (((w.alloc A).alloc B).alloc (.cells c t)) (w.heap.size + 1 + 1) n t := by
 have := HasN.new ((w.alloc A).alloc B) c t n hn
 simpa using this
theorem HasN.lt (h : HasN w b n t) : b < w.heap.size := let ⟨_, _, h⟩ := h; h.lt
theorem HasN.other (h : HasN w b n t) (a : Addr) (v : Value) (hb : b ≠ a.block) : HasN (w.setCell a v) b n t := let ⟨c, hn, h⟩ := h; ⟨c, hn, h.other a v hb⟩
theorem HasN.alloc (h : HasN w b n t) (o : Obj) : HasN (w.alloc o) b n t := let ⟨c, hn, h⟩ := h; ⟨c, hn, h.alloc o⟩
theorem HasN.below {B : Nat} (h : HasN w b n t) (hb : Below B w w') (hB : b < B) : HasN w' b n t := let ⟨c, hn, h⟩ := h; ⟨c, hn, h.below hb hB⟩
theorem HasN.setRow_other (h : HasN w b n t) (g : Nat) (c' : Array Value) (hg : b ≠ g) : HasN (w.setRow g c') b n t := let ⟨c, hn, h⟩ := h; ⟨c, hn, h.setRow_other g c' hg⟩
end hasn
theorem below_1 (w : World) (A : Obj) : Below w.heap.size w (w.alloc A) := (Below.refl _ _).alloc (Nat.le_refl _) _
theorem qb5 (w : World) (A B : Obj) : Below w.heap.size w ((w.alloc A).alloc B) := (below_1 w A).alloc (by simp) _
theorem qax (w : World) (A B C : Obj) : Below w.heap.size w (((w.alloc A).alloc B).alloc C) := (qb5 w A B).alloc (by simp; omega) _
theorem below_4 (w : World) (A B C D : Obj) : Below w.heap.size w ((((w.alloc A).alloc B).alloc C).alloc D) := (qax w A B C).alloc (by simp; omega) _
theorem z7 {B : Nat} {a w : World} (h : Below B a w) (n : Nat) : Below B a (w.drewN n) := ⟨h.os, h.tape, h.output, h.size, h.block⟩
theorem qB {B : Nat} {a w : World} (h : Below B a w) (g : Nat) (c : Array Value) (hg : B ≤ g) : Below B a (w.setRow g c) :=
 h.trans ⟨rfl, rfl, rfl, by simp, fun k hk => setRow_other w g k c (by omega)⟩
theorem qX {w4 W w1 : World} (h : Below w4.heap.size w4 W) (hb : Below W.heap.size W w1) : Below w4.heap.size w4 w1 := h.trans (hb.mono h.size)
theorem Has.call {W w1 : World} {b : Nat} {c : Array Value} {t : TypeId} (h : Has W b c t) (hb : Below W.heap.size W w1) : Has w1 b c t := h.below hb h.lt
theorem HasN.call {W w1 : World} {b n : Nat} {t : TypeId} (h : HasN W b n t) (hb : Below W.heap.size W w1) : HasN w1 b n t := h.below hb h.lt
theorem qcQ {w4 w1 : World} {b o : Nat} {l : List Value} (hR : w4.rangeAt b o l) (h : Below w4.heap.size w4 w1) (hlt : b < w4.heap.size) : w1.rangeAt b o l := fun j v hv =>
 (h.cell (p := ⟨b, o + j, none⟩) hlt).trans (hR j v hv)
theorem Zv (kd : IntKind) (k : Nat) (f : Nat → Int) : ∀ v ∈ Qc kd k f, v.oneCell' = true := by
 simp [Qc, Value.oneCell']
def qn (B : Int) (f : Nat → Int) : Nat → Int
 | 0 => 0
 | n + 1 => qn B f n + f n * B ^ n
theorem zm (B : Int) (f g : Nat → Int) (n : Nat) (h : ∀ i, i < n → f i = g i) : qn B f n = qn B g n := by
 induction n with
 | zero => rfl
 | succ n ih => simp only [qn]; rw [ih (fun i hi => h i (by omega)), h n (by omega)]
theorem QB (B : Int) (f : Nat → Int) (n i : Nat) (x : Int) (h : n ≤ i) : qn B (upd f i x) n = qn B f n :=
 zm B _ _ n fun j hj => qs f i j x (by omega)
theorem Qt (B : Int) (f : Nat → Int) (n i : Nat) (x : Int) (h : i < n) : qn B (upd f i x) n = qn B f n + (x - f i) * B ^ i := by
 induction n with
 | zero => omega
 | succ n ih =>
  simp only [qn]
  by_cases hi : i = n
  · subst hi
    rw [QB B f i i x (Nat.le_refl _), qu, Int.sub_mul]; omega
  · rw [ih (by omega), qs f i n x (by omega)]; omega
theorem zr (B : Int) (f : Nat → Int) (n : Nat) (h : ∀ i, i < n → f i = 0) : qn B f n = 0 := by
 induction n with
 | zero => rfl
 | succ n ih => simp only [qn]; rw [ih (fun i hi => h i (by omega)), h n (by omega)]; simp
theorem Qf (B : Int) (hB : 0 < B) (f : Nat → Int) (n : Nat) (h : ∀ i, i < n → 0 ≤ f i) : 0 ≤ qn B f n := by
 induction n with
 | zero => simp [qn]
 | succ n ih =>
  simp only [qn]
  have h1 := ih (fun i hi => h i (by omega))
  have h2 : 0 ≤ f n * B ^ n := Int.mul_nonneg (h n (by omega)) (Int.le_of_lt (Int.pow_pos hB))
  omega
theorem qaj (B : Int) (hB : 0 < B) (f : Nat → Int) (n : Nat) (h : ∀ i, i < n → f i < B) : qn B f n < B ^ n := by
 induction n with
 | zero => simp [qn]
 | succ n ih =>
  simp only [qn]
  have h1 := ih (fun i hi => h i (by omega))
  have h2 : f n * B ^ n ≤ (B - 1) * B ^ n := Int.mul_le_mul_of_nonneg_right (by have := h n (by omega); omega) (Int.le_of_lt (Int.pow_pos hB))
  rw [Int.sub_mul] at h2
  rw [Int.pow_succ, Int.mul_comm (B ^ n) B]
  omega
def dg (B n i : Nat) : Int := ((n / B ^ i % B : Nat) : Int)
theorem qad (B n i : Nat) (hB : 0 < B) : 0 ≤ dg B n i ∧ dg B n i < B := by
 unfold dg
 have := Nat.mod_lt (n / B ^ i) hB
 omega
theorem zj (B n k : Nat) : qn (B : Int) (dg B n) k = ((n % B ^ k : Nat) : Int) := by
 induction k with
 | zero => simp [qn, Nat.mod_one]
 | succ k ih =>
  simp only [qn]
  rw [ih, dg, Nat.pow_succ, Nat.mod_mul, ← Int.natCast_pow, Int.mul_comm, ← Int.natCast_mul, ← Int.natCast_add]
theorem zL (B : Nat) (f : Nat → Int) (n k : Nat) (hf : ∀ i, i < k → 0 ≤ f i ∧ f i < B) (h : qn (B : Int) f k = n) : ∀ i, i < k → f i = dg B n i := by
 induction k generalizing n with
 | zero => intro i hi; omega
 | succ k ih =>
  intro i hi
  have hB : 0 < (B : Int) := by have := hf k (by omega); omega
  have hBk : (0 : Int) < (B : Int) ^ k := Int.pow_pos hB
  simp only [qn] at h
  have h1 := Qf B hB f k (fun i hi => (hf i (by omega)).1)
  have h2 := qaj B hB f k (fun i hi => (hf i (by omega)).2)
  have hk := hf k (by omega)
  obtain ⟨s, hs⟩ := Int.eq_ofNat_of_zero_le h1
  obtain ⟨d, hd⟩ := Int.eq_ofNat_of_zero_le hk.1
  rw [hs, hd] at h
  rw [hs] at h2
  rw [← Int.natCast_pow] at h h2
  have h' : s + d * B ^ k = n := by
   have : ((s + d * B ^ k : Nat) : Int) = (n : Int) := by rw [Int.natCast_add, Int.natCast_mul]; exact h
   omega
  have h2' : s < B ^ k := by omega
  have hpos : 0 < B ^ k := by omega
  by_cases hik : i = k
  · subst hik
    rw [hd, dg, ← h', Nat.add_mul_div_right _ _ hpos, Nat.div_eq_of_lt h2', Nat.zero_add, Nat.mod_eq_of_lt (by omega)]
  · rw [ih s (fun i hi => hf i (by omega)) hs i (by omega), dg, dg, ← h']
    have e : B ^ k = B ^ i * B * B ^ (k - i - 1) := by rw [← Nat.pow_succ, ← Nat.pow_add]; congr 1; omega
    rw [e, show d * (B ^ i * B * B ^ (k - i - 1)) = B ^ i * (B * (d * B ^ (k - i - 1))) by ac_rfl, Nat.add_mul_div_left _ _ (Nat.pow_pos (by omega)), Nat.add_mul_mod_self_left]
end
end Go.Proofs.YtbgefoamhdgnaaaGreatDoor
namespace Go.Sx
section
open Go Go.RowKit
def QS (P : Prop) : Ent := rs ⟨fun _ => False, fun _ => False, fun _ => P, fun _ _ _ h => h, fun _ _ k h => h.elim (fun h => h.elim) fun h => h.elim⟩
theorem factW (P : Prop) (k : Nat) : ¬ (QS P).W k := fun h => ((rsW _ k).1 h).elim
theorem factA (P : Prop) (k : Nat) : ¬ (QS P).A k := fun h => ((rsA _ k).1 h).elim (fun h => h.elim) fun h => h.elim
theorem St.fact {M : Bks} {B w : World} {L : List Ent} (h : St M B w L) {P : Prop} (hP : P) : St M B w (QS P :: L) := by
 refine ⟨h.os, h.tape, h.output, h.size, h.old, fun e he => ?_, fun e he k hk => ?_, .cons (fun y hy k => ⟨fun h1 => absurd h1 (factW P k), fun _ h2 => absurd h2 (factA P k)⟩) h.apart⟩
 · rcases List.mem_cons.1 he with rfl | he
   · exact (qc0 _ _).2 hP
   · exact h.ok e he
 · rcases List.mem_cons.1 he with rfl | he
   · exact absurd hk (factW P k)
   · exact h.ownW e he k hk
theorem St.factP {M : Bks} {B w : World} {L : List Ent} (h : St M B w L) {P : Prop} (hm : QS P ∈ L) : P := (qc0 _ w).1 (h.ok _ hm)
theorem CodeP.no {C : Cx} {c : Code} {K : Exit → Sy → Prop} {s : Sy} (h : ∀ w, St C.M C.B w s.L → False) : CodeP C c K s := ⟨fun n a w hf hs => (h w hs).elim⟩
def roundI {I α β : Type} (Inv : I → α → Prop) (E : I → α → List Ent) (S : β → List Ent × Code) (l : Nat) (busy : Obj) (B : World) (es : List Ent) (j : I) : Exit → Sy → Prop := fun x s => match x with
 | .normal => ∃ y, Inv j y ∧ Sub (E j y ++ [⟨l, some busy, false, none⟩]) s.L ∧ ∀ e ∈ E j y, ∀ b, e.A b → (∃ f ∈ es, f.A b) ∨ B.heap.size ≤ b
 | .ret => ∃ y, (S y).2 = .ret ∧ Sub ((S y).1 ++ [⟨l, some busy, false, none⟩]) s.L ∧ ∀ e ∈ (S y).1, ∀ b, e.A b → (∃ f ∈ es, f.A b) ∨ B.heap.size ≤ b
 | .exit id => ∃ y, (S y).2 = .exit id ∧ Sub ((S y).1 ++ [⟨l, some busy, false, none⟩]) s.L ∧ ∀ e ∈ (S y).1, ∀ b, e.A b → (∃ f ∈ es, f.A b) ∨ B.heap.size ≤ b
 | _ => False
theorem roundI_M {C : Cx} {I α β : Type} {Inv : I → α → Prop} {E : I → α → List Ent} {S : β → List Ent × Code} {l : Nat} {busy : Obj} {B : World} {es : List Ent} {j : I} (x : Exit) (a : Act) (w : World) (h : Q9 C (roundI Inv E S l busy B es j x) a w) :
 Q9 C (roundM (fun i y => QS (Inv i y) :: E i y) S l busy B es j x) a w := by
 obtain ⟨s, hf, hs, hr⟩ := h
 cases x with
 | normal =>
  obtain ⟨y, h0, h1, h2⟩ := hr
  refine ⟨⟨s.σ, QS (Inv j y) :: s.L, s.D⟩, ⟨hf.size, hf.defers, hf.slot⟩, hs.fact h0, y, .cons h1, fun e he b hb => ?_⟩
  rcases List.mem_cons.1 he with rfl | he
  · exact absurd hb (factA _ b)
  · exact h2 e he b hb
 | ret => exact ⟨s, hf, hs, hr⟩
 | exit id => exact ⟨s, hf, hs, hr⟩
 | _ => exact hr.elim
theorem sub_mid (L : List Ent) (e : Ent) (l : List Ent) : Sub (L ++ l) (L ++ e :: l) := by
 induction L with
 | nil => exact .drop (Sub.refl l)
 | cons x L ih => exact .cons ih
end
section
open Go Go.RowKit
structure ItrO (P : Program) (g : FuncId) (lb : List Value) {I : Type} (i0 : I) (nx : I → List Value → List Ent → I → Prop) (fin : I → Prop) (H : Res) : Prop where
 go : ∀ (l : Nat) (α β : Type) (R : I → α → Res) (S : β → Res) (W : World) (x0 : α), (R i0 x0).p W → H.p W → (∀ k, H.A k → ¬ (R i0 x0).w k) →
  (∀ i args q j x w, nx i args q j → (∀ e ∈ q, ∀ k, e.A k → W.heap.size ≤ k) → (qH (rs (R i x) :: q)).p w → ∀ m, YieldAt Fence.wide m P l args.toArray w fun e w' => (e = .returned (.bool true) ∧ ∃ y, Turns w w' (qH (rs (R i x) :: q)) (R j y)) ∨ (e = .returned (.bool false) ∧ ∃ y, Turns w w' (qH (rs (R i x) :: q)) (S y))) →
  Calls P g (.func (.yield l) #[] #[] :: lb).toArray W fun e W' => (∃ v, e = .returned v) ∧ ((∃ i y, fin i ∧ Turns W W' (R i0 x0) (R i y)) ∨ ∃ y, Turns W W' (R i0 x0) (S y))
theorem Turns.more {w w' : World} {r1 r r' : Res} (h : Turns w w' r1 r') (hw : ∀ k, r1.w k → r.w k) (hA : ∀ k, r1.w k ∨ r1.r k → r.w k ∨ r.r k) : Turns w w' r r' :=
 ⟨h.os, h.tape, h.output, h.size, fun k hk hn => h.old k hk fun h1 => hn (hw k h1), h.ok, fun k hk => (h.W k hk).imp (hw k) id, fun k hk => (h.A k hk).imp (hA k) id⟩
theorem roundK_sub {I α β : Type} {E : I → α → Ent} {S : β → Ent × Code} {l : Nat} {busy : Obj} {B : World} {e e' : Ent} {j : I} (hA : ∀ b, e.A b → e'.A b) (x : Exit) (s : Sy) (h : ZQ E S l busy B e j x s) : ZQ E S l busy B e' j x s := by
 cases x with
 | normal => obtain ⟨y, h1, h2⟩ := h; exact ⟨y, h1, fun b hb => (h2 b hb).imp (hA b) id⟩
 | ret => obtain ⟨y, h0, h1, h2⟩ := h; exact ⟨y, h0, h1, fun b hb => (h2 b hb).imp (hA b) id⟩
 | exit _ => obtain ⟨y, h0, h1, h2⟩ := h; exact ⟨y, h0, h1, fun b hb => (h2 b hb).imp (hA b) fun h => h⟩
 | _ => exact h.elim
theorem rfO' {C : Cx} (hT : TabOk C.P C.T) (hF : C.F = none) {g : Operand} {ps : Array Tmp} {assign body : Code} {K : Exit → Sy → Prop} {σ : Fr} {L : List Ent} {D : List Deferred} {gf : FuncId} {lb : Array Value} {I α β : Type} {i0 : I} {nx : I → List Value → List Ent → I → Prop} {fin : I → Prop} {H : Res}
 (hcl : QM C.T gf = true) (hg : ev σ g (· = .func (.func gf) #[] lb)) (hit : ItrO C.P gf lb.toList i0 nx fin H) (k : Nat) (E : I → α → Ent) (S : β → Ent × Code) (hS : ∀ y, (S y).2 = .ret ∨ ∃ id, (S y).2 = .exit id) (x0 : α) (hk : L[k]? = some (E i0 x0))
 (hH : ∀ w, St C.M C.B w L → H.p w ∧ ∀ b, H.A b → ¬ (E i0 x0).W b) (hps : ∀ i args q j, nx i args q j → args.length = ps.size)
 (round : ∀ l i args q j x w ready busy, nx i args q j → CodeP ⟨C.P, C.T, C.N, [fun b => b = l ∨ (rs (qH (E i x :: q))).W b], w, some l⟩ assign (beginKP ⟨C.P, C.T, C.N, [fun b => b = l ∨ (rs (qH (E i x :: q))).W b], w, some l⟩ body (ZQ E S l busy w (rs (qH (E i x :: q))) j) l L.length ready busy)
  ⟨qcR C.N ps.toList args σ, (L.map Ent.rd).set k (rs (qH (E i x :: q))) ++ [⟨l, some ready, false, none⟩], []⟩)
 (done : ∀ i y b0, fin i → K .normal ⟨σ, L.set k (E i y) ++ [dfe b0], { target := .collected b0, args := #[] } :: D⟩)
 (stop : ∀ y b0, K (qcG (S y).2) ⟨σ, L.set k (S y).1 ++ [dfe b0], { target := .collected b0, args := #[] } :: D⟩) : CodeP C (.rangeFunc g ps assign body) K ⟨σ, L, D⟩ := by
 refine ⟨fun n a w hf hs => ?_⟩
 have hfence : C.fence = Fence.wide := by unfold Cx.fence; rw [hF]
 rw [hfence]
 have hkl : k < L.length := (List.getElem?_eq_some_iff.1 hk).1
 have hgv : a.eval g = .func (.func gf) #[] lb := hf.fit g _ hg
 obtain ⟨fn0, k1, k2, k3⟩ := Zh (zl hT hcl)
 have k4 : fn0.name ≠ "runtime.NumGoroutine" := by simpa using k2
 have eg : ∀ args w, (callFunc gf args).run C.P w = .ok (.enter gf args) w := by
  intro args w
  cases hb : fn0.body with
  | none => rw [hb] at k3; cases k3
  | some code => simp [callFunc, k1, k4, hb]
 refine wpIn_rangeFunc fun fn hfn => ?_
 obtain ⟨rec, hrec⟩ : ∃ rec : LoopState → Option Code → Loop, rec = fun st pe => { state := st, pending := pe, fn, tmps := a.tmps, params := ps, assign, body, defers := w.heap.size } := ⟨_, rfl⟩
 obtain ⟨W0, hW0⟩ : ∃ W0, W0 = w.alloc (.deferred (some [])) := ⟨_, rfl⟩
 obtain ⟨W1, hW1⟩ : ∃ W1, W1 = W0.alloc (.loop (rec .ready none)) := ⟨_, rfl⟩
 have hz0 : W0.heap.size = w.heap.size + 1 := by rw [hW0]; simp
 have hz1 : W1.heap.size = w.heap.size + 2 := by rw [hW1]; simp [hz0]
 have hs0 : St C.M C.B W0 (L ++ [dfe w.heap.size]) := by rw [hW0]; exact hs.alloc _
 have hL1 : W1.heap[w.heap.size + 1]? = some (.loop (rec .ready none)) := by rw [hW1, ← hz0]; exact heap_alloc_new W0 _
 have hs1 : St C.M C.B W1 (L ++ [dfe w.heap.size]) := by rw [hW1]; exact hs0.call (zG W0 _)
 have hk1 : (L ++ [dfe w.heap.size])[k]? = some (E i0 x0) := by rw [List.getElem?_append_left hkl]; exact hk
 obtain ⟨F, hFF⟩ : ∃ F, F = (L ++ [dfe w.heap.size]).set k dead := ⟨_, rfl⟩
 have hF1 : ∀ f ∈ F, f = dead ∨ ∃ i, i ≠ k ∧ (L ++ [dfe w.heap.size])[i]? = some f := fun f hf => by rw [hFF] at hf; exact QP hf
 have hFl : ∀ f ∈ F, ∀ j, f.A j → j < w.heap.size + 1 := fun f hf j hj => by
  rcases hF1 f hf with rfl | ⟨i, hi, hm⟩
  · simp at hj
  · have := hs0.ltA (List.mem_of_getElem? hm) hj; omega
 have hEl : ∀ j, (E i0 x0).A j → j < w.heap.size := fun j hj => hs.ltA (List.mem_of_getElem? hk) hj
 have hp0 : qfd (E i0 x0) (E i0 x0) (w.heap.size + 1) (.loop (rec .ready none)) F W1 := by
  refine ⟨hs1.ok _ (List.mem_of_getElem? hk1), hL1, fun f hf => ?_, fun f hf => ?_, fun f hf hj => ?_, fun hj => ?_, fun j hj => .inl hj⟩
  · rcases hF1 f hf with rfl | ⟨i, hi, hm⟩
    · simp
    · exact hs1.ok f (List.mem_of_getElem? hm)
  · rcases hF1 f hf with rfl | ⟨i, hi, hm⟩
    · exact (ZD _).symm
    · exact QG hs1.apart hk1 hm (fun e => hi e.symm)
  · have := hFl f hf _ hj; omega
  · have := hEl _ hj; omega
 refine ⟨w.heap.size + 1, [{ target := .collected w.heap.size, args := #[] }], W1, { target := .fn (.func gf) lb, args := #[.func (.yield (w.heap.size + 1)) #[] #[]] }, W1, gf,
  #[.func (.yield (w.heap.size + 1)) #[] #[]] ++ lb, W1, ?_, ?_, fun _ _ => trivial, ?_, fun h => (by cases h), ?_⟩
 · rw [hW1, hW0, hrec]; exact run_enterLoop_outer _ _ _ _ _
 · simp only [resolve, hgv]
   simp [go_sem]
 · simp [invoke, go_sem, eg]
 · have hcall := hit.go (w.heap.size + 1) α β (fun i x => qcK (E i0 x0) (E i x) (w.heap.size + 1) (.loop (rec .ready none)) F) (fun y => qcK (E i0 x0) (S y).1 (w.heap.size + 1) (.loop (rec .done (some (S y).2))) F) W1 x0 hp0
    (H.st w W1 (fun j hj => by
     have hjl := H.bd w (hH w hs).1 j hj
     rw [hW1, hW0, Below.heap_alloc _ _ _ (by simp; omega), Below.heap_alloc _ _ _ hjl]) (hH w hs).1)
    (fun b hb hn => by
     rcases hn with h | h
     · exact (hH w hs).2 b hb h
     · have := H.bd w (hH w hs).1 b hb; omega) ?_
   · have e1 : (Value.func (.yield (w.heap.size + 1)) #[] #[] :: lb.toList).toArray = #[.func (.yield (w.heap.size + 1)) #[] #[]] ++ lb := by apply Array.ext'; simp
     rw [e1] at hcall
     refine ((callsIn_wide (n := n - 1)).2 hcall).mono ?_
     have fin' : ∀ (e' : Ent) (st : LoopState) (pe : Option Code) (W' : World), st ≠ .busy → Turns W1 W' (qcK (E i0 x0) (E i0 x0) (w.heap.size + 1) (.loop (rec .ready none)) F) (qcK (E i0 x0) e' (w.heap.size + 1) (.loop (rec st pe)) F) →
      ∃ w4, (Instr.endLoop (w.heap.size + 1)).run C.P W' = .ok pe w4 ∧ St C.M C.B w4 (L.set k e' ++ [dfe w.heap.size]) := by
      intro e' st pe W' hst ht
      have hp := ht.ok
      refine ⟨W'.putObj (w.heap.size + 1) (.loop { rec st pe with state := .exhausted }), by have := run_endLoop (P := C.P) hp.lp (by rw [hrec]; exact hst); subst hrec; exact this, ?_⟩
      have e2 : L.set k e' ++ [dfe w.heap.size] = (L ++ [dfe w.heap.size]).set k e' := by rw [List.set_append_left _ _ hkl]
      rw [e2]
      refine hs1.upd2 hk1 (by rw [World.putObj_size]; exact ht.size) (hp.ok.same fun j hj => World.putObj_heap_other fun h => hp.el (h ▸ hj)) (fun j hj hn ho => ?_) ht.os ht.tape ht.output (fun j hj => ?_) (fun j hj => ?_)
      · have hjl : j ≠ w.heap.size + 1 := by
         rcases ho with h | ⟨f, hf', h⟩
         · have := hs.size; omega
         · have := hFl f (hFF ▸ hf') j h; omega
        refine (World.putObj_heap_other hjl).trans (ht.old j hj ?_)
        rintro (h | h)
        · exact hn h
        · exact hjl h
      · rcases ht.W j (.inl hj) with (h | rfl) | h
        · exact .inl h
        · exact absurd hj.a hp.el
        · exact .inr h
      · rcases hp.e0 j hj with h | h
        · exact .inl h
        · exact .inr (by omega)
     rintro e W' ⟨⟨v, rfl⟩, ⟨i, y, hfi, ht⟩ | ⟨y, ht⟩⟩
     · obtain ⟨w4, hr, hs4⟩ := fin' _ _ _ W' (by simp) ht
       exact ⟨none, w4, hr, ⟨⟨σ, L.set k (E i y) ++ [dfe w.heap.size], { target := .collected w.heap.size, args := #[] } :: D⟩, ⟨hf.size, congrArg (_ :: ·) hf.defers, hf.slot⟩, hs4, done i y _ hfi⟩⟩
     · obtain ⟨w4, hr, hs4⟩ := fin' _ _ _ W' (by simp) ht
       refine ⟨some (S y).2, w4, hr, ?_⟩
       have hK := stop y w.heap.size
       rcases hS y with h | ⟨id, h⟩
       · rw [h] at hK ⊢
         exact wpIn_ret ⟨⟨σ, L.set k (S y).1 ++ [dfe w.heap.size], { target := .collected w.heap.size, args := #[] } :: D⟩, ⟨hf.size, congrArg (_ :: ·) hf.defers, hf.slot⟩, hs4, hK⟩
       · rw [h] at hK ⊢
         exact wpIn_exit ⟨⟨σ, L.set k (S y).1 ++ [dfe w.heap.size], { target := .collected w.heap.size, args := #[] } :: D⟩, ⟨hf.size, congrArg (_ :: ·) hf.defers, hf.slot⟩, hs4, hK⟩
   · intro i args q j x u hn hqf hpq m
     have hpz := hps i args q j hn
     have hp1 : qfd (E i0 x0) (E i x) (w.heap.size + 1) (.loop (rec .ready none)) F u := (qc0 _ _).1 (hpq.1 _ (List.mem_cons_self ..))
     have hpa := List.pairwise_cons.1 hpq.2
     have hqz : ∀ f ∈ q, ∀ b, f.A b → w.heap.size + 2 ≤ b := fun f hf b hb => by have := hqf f hf b hb; omega
     have hp : qfd (E i0 x0) (rs (qH (E i x :: q))) (w.heap.size + 1) (.loop (rec .ready none)) F u := by
      refine ⟨(qc0 _ _).2 ⟨fun e he => ?_, .cons (fun f hf b => ?_) hpa.2⟩, hp1.lp, hp1.fr, fun f hf b => ⟨fun h1 h2 => ?_, fun h1 h2 => ?_⟩, hp1.fl, fun h => ?_, fun b hb => ?_⟩
      · rcases List.mem_cons.1 he with rfl | he
        · exact hp1.ok
        · exact hpq.1 e (List.mem_cons_of_mem _ he)
      · have h1 := hpa.1 f hf b
        exact ⟨fun h2 => h1.1 ((rsW _ _).2 (.inl h2)), fun h2 h3 => h1.2 h2 ((rsA _ _).2 (.inr (.inl h3)))⟩
      · obtain ⟨e, he, h1⟩ := (Z6 _ _).1 h1
        rcases List.mem_cons.1 he with rfl | he
        · exact (hp1.ap f hf b).1 h1 h2
        · have := hqz e he b h1.a
          have := hFl f hf b h2
          omega
      · obtain ⟨e, he, h2⟩ := (Z7 _ _).1 h2
        rcases List.mem_cons.1 he with rfl | he
        · exact (hp1.ap f hf b).2 h1 h2
        · have := hqz e he b h2
          have := hFl f hf b h1.a
          omega
      · obtain ⟨e, he, h⟩ := (Z7 _ _).1 h
        rcases List.mem_cons.1 he with rfl | he
        · exact hp1.el h
        · have := hqz e he _ h
          omega
      · obtain ⟨e, he, hb⟩ := (Z7 _ _).1 hb
        rcases List.mem_cons.1 he with rfl | he
        · exact hp1.e0 b hb
        · have := hqz e he b hb
          exact .inr (by omega)
     have more : ∀ {u' : World} {X : Res}, Turns u u' (qcK (E i0 x0) (rs (qH (E i x :: q))) (w.heap.size + 1) (.loop (rec .ready none)) F) X → Turns u u' (qH (rs (qcK (E i0 x0) (E i x) (w.heap.size + 1) (.loop (rec .ready none)) F) :: q)) X := fun h => h.more (fun b hb => by
      rcases hb with hb | hb
      · obtain ⟨e, he, hb⟩ := (Z6 _ _).1 hb
        rcases List.mem_cons.1 he with rfl | he
        · exact ⟨_, List.mem_cons_self .., (rsW _ _).2 (.inl hb)⟩
        · exact ⟨e, List.mem_cons_of_mem _ he, hb⟩
      · exact ⟨_, List.mem_cons_self .., (rsW _ _).2 (.inr hb)⟩) (fun b hb => by
      refine .inr ?_
      have base : ∀ b, (rs (qH (E i x :: q))).A b → ∃ e ∈ (rs (qcK (E i0 x0) (E i x) (w.heap.size + 1) (.loop (rec .ready none)) F) :: q), e.A b := fun b hb => by
       obtain ⟨e, he, hb⟩ := (Z7 _ _).1 hb
       rcases List.mem_cons.1 he with rfl | he
       · exact ⟨_, List.mem_cons_self .., (rsA _ _).2 (.inr (.inl hb))⟩
       · exact ⟨e, List.mem_cons_of_mem _ he, hb⟩
      rcases hb with (hb | hb) | hb | hb
      · exact base b hb.a
      · exact ⟨_, List.mem_cons_self .., (rsA _ _).2 (.inl (.inr hb))⟩
      · exact base b hb
      · exact ⟨_, List.mem_cons_self .., (rsA _ _).2 (.inr (.inr hb))⟩)
     have hy := run_yield (P := C.P) (args := args.toArray) hp.lp (by rw [hrec]; simpa using hpz)
     rw [hrec] at hy
     refine ⟨fn, _, assign, body, hy, roundIn_of_wpIn hfn ?_⟩
     have e3 : ((ps.zip args.toArray).foldl (fun t (p, v) => t.setIfInBounds p v) a.tmps) = ((ps.toList.zip args).foldl (fun t (p, v) => t.setIfInBounds p v) a.tmps) := by
      rw [← Array.foldl_toList]; simp
     have hfit := qdH ps.toList args σ L ((L.map Ent.rd).set k (rs (qH (E i x :: q))) ++ [⟨w.heap.size + 1, some (.loop (rec .ready none)), false, none⟩]) a hf
     have hst : St [fun b => b = w.heap.size + 1 ∨ (rs (qH (E i x :: q))).W b] u u ((L.map Ent.rd).set k (rs (qH (E i x :: q))) ++ [⟨w.heap.size + 1, some (.loop (rec .ready none)), false, none⟩]) := by
      have hmem : ∀ f ∈ (L.map Ent.rd).set k (rs (qH (E i x :: q))), f = rs (qH (E i x :: q)) ∨ ∃ f' ∈ F, f = f'.rd := by
       intro f hf
       rcases QP hf with rfl | ⟨i', hi, hm⟩
       · exact .inl rfl
       · right
         rw [List.getElem?_map, Option.map_eq_some_iff] at hm
         obtain ⟨f', hm, rfl⟩ := hm
         have hil := (List.getElem?_eq_some_iff.1 hm).1
         exact ⟨f', by rw [hFF]; exact List.mem_of_getElem? (i := i') (by rw [List.getElem?_set_ne (fun e => hi e.symm), List.getElem?_append_left hil]; exact hm), rfl⟩
      refine St.from u _ _ (fun f hf => ?_) ?_
      · rcases List.mem_append.1 hf with hf | hf
        · rcases hmem f hf with rfl | ⟨f', hf', rfl⟩
          · exact ⟨hp.ok, fun b hb => ⟨_, List.mem_singleton.2 rfl, .inr hb⟩⟩
          · exact ⟨(Ent.rdOk _ _).2 (hp.fr f' hf'), fun b hb => absurd hb (Ent.rdW _ _)⟩
        · obtain rfl : f = ⟨w.heap.size + 1, some (.loop (rec .ready none)), false, none⟩ := by simpa using hf
          exact ⟨by simpa using hp.lp, fun b hb => by simp at hb; simp [hb]⟩
      · refine List.pairwise_append.2 ⟨pw_set ?_ ?_, by simp, ?_⟩
        · rw [List.pairwise_map]
          exact List.pairwise_of_forall (fun x y b => ⟨fun h => absurd h (Ent.rdW _ _), fun h => absurd h (Ent.rdW _ _)⟩)
        · intro i' f hi hm
          rw [List.getElem?_map, Option.map_eq_some_iff] at hm
          obtain ⟨f', hm, rfl⟩ := hm
          have hil := (List.getElem?_eq_some_iff.1 hm).1
          have hf' : f' ∈ F := by rw [hFF]; exact List.mem_of_getElem? (i := i') (by rw [List.getElem?_set_ne (fun e => hi e.symm), List.getElem?_append_left hil]; exact hm)
          exact fun b => ⟨fun h1 h2 => (hp.ap f' hf' b).1 h1 ((Ent.rdA _ _).1 h2), fun h1 => absurd h1 (Ent.rdW _ _)⟩
        · intro f hf y hy
          obtain rfl : y = ⟨w.heap.size + 1, some (.loop (rec .ready none)), false, none⟩ := by simpa using hy
          rcases hmem f hf with rfl | ⟨f', hf', rfl⟩
          · exact fun b => ⟨fun h1 h2 => by simp at h2; subst h2; exact hp.el h1.a, fun h1 h2 => by simp at h1; subst h1; exact hp.el h2⟩
          · exact fun b => ⟨fun h1 => absurd h1 (Ent.rdW _ _), fun h1 h2 => by simp at h1; subst h1; exact hp.fl f' hf' ((Ent.rdA _ _).1 h2)⟩
     have hcx := round (w.heap.size + 1) i args q j x u (.loop (rec .ready none)) (.loop (rec .busy none)) hn
     rw [e3]
     refine wpIn_mono (hcx.go m _ u hfit hst) ?_
     rintro e a1 w1 ⟨s1, hf1, hs1', hb⟩
     cases e with
     | normal =>
      obtain ⟨hb1, hb2⟩ := hb
      have hl1 := hs1'.nth hb1
      refine ⟨w1.putObj (w.heap.size + 1) (.loop (rec .busy none)), by have := run_beginRound (P := C.P) hl1 (by rw [hrec]); subst hrec; exact this, ?_⟩
      have hs2 := hs1'.put (o' := .loop (rec .busy none)) hb1
      refine wpIn_mono (hb2.go m a1 _ ⟨hf1.size, hf1.defers, hf1.slot⟩ hs2) ?_
      rintro e a3 w3 ⟨s3, hf3, hs3, hb3⟩
      cases e with
      | normal =>
       obtain ⟨y, hsub, hA⟩ := hb3
       have h3 := hs3.sub hsub
       have hr := run_endRound (P := C.P) none (h3.nth (k := 1) rfl)
       refine ⟨_, _, hr, .inl ⟨rfl, y, ?_⟩⟩
       have := zO (o'' := .loop (rec .ready none)) hp h3 hA
       refine more ?_
       rw [hrec] at this ⊢; exact this
      | ret =>
       obtain ⟨y, hy, hsub, hA⟩ := hb3
       have h3 := hs3.sub hsub
       have hr := run_endRound (P := C.P) (some .ret) (h3.nth (k := 1) rfl)
       refine ⟨_, _, hr, .inr ⟨rfl, y, ?_⟩⟩
       have := zO (o'' := .loop (rec .done (some .ret))) hp h3 hA
       rw [hy]
       refine more ?_
       rw [hrec] at this ⊢; exact this
      | exit id =>
       obtain ⟨y, hy, hsub, hA⟩ := hb3
       have h3 := hs3.sub hsub
       have hr := run_endRound (P := C.P) (some (.exit id)) (h3.nth (k := 1) rfl)
       refine ⟨_, _, hr, .inr ⟨rfl, y, ?_⟩⟩
       have := zO (o'' := .loop (rec .done (some (.exit id)))) hp h3 hA
       rw [hy]
       refine more ?_
       rw [hrec] at this ⊢; exact this
      | goto t => exact hb3.elim
      | panic ch => exact hb3.elim
      | outgrown => exact hb3.elim
     | _ => exact hb.elim
def roundW {I α β : Type} (Inv : I → α → Prop) (E : I → α → List Ent) (S : β → List Ent × Code) (l : Nat) (busy : Obj) (B : World) (es : List Ent) (j : I) : Exit → Sy → Prop := fun x s => match x with
 | .normal => ∃ y, Inv j y ∧ Sub (E j y ++ [⟨l, some busy, false, none⟩]) s.L ∧ ∀ e ∈ E j y, ∀ b, e.A b → ¬ e.W b → (∃ f ∈ es, f.A b) ∨ B.heap.size ≤ b
 | .ret => ∃ y, (S y).2 = .ret ∧ Sub ((S y).1 ++ [⟨l, some busy, false, none⟩]) s.L ∧ ∀ e ∈ (S y).1, ∀ b, e.A b → ¬ e.W b → (∃ f ∈ es, f.A b) ∨ B.heap.size ≤ b
 | .exit id => ∃ y, (S y).2 = .exit id ∧ Sub ((S y).1 ++ [⟨l, some busy, false, none⟩]) s.L ∧ ∀ e ∈ (S y).1, ∀ b, e.A b → ¬ e.W b → (∃ f ∈ es, f.A b) ∨ B.heap.size ≤ b
 | _ => False
theorem roundW_I {P : Program} {T : Tab} {N : Nat} {I α β : Type} {Inv : I → α → Prop} {E : I → α → List Ent} {S : β → List Ent × Code} {l : Nat} {busy : Obj} {B : World} {es : List Ent} {j : I} (x : Exit) (a : Act) (w : World)
 (h : Q9 ⟨P, T, N, [fun b => b = l ∨ ∃ e ∈ es, e.W b], B, some l⟩ (roundW Inv E S l busy B es j x) a w) : Q9 ⟨P, T, N, [fun b => b = l ∨ ∃ e ∈ es, e.W b], B, some l⟩ (roundI Inv E S l busy B es j x) a w := by
 obtain ⟨s, hf, hs, hr⟩ := h
 have key : ∀ F : List Ent, Sub (F ++ [⟨l, some busy, false, none⟩]) s.L → (∀ e ∈ F, ∀ b, e.A b → ¬ e.W b → (∃ f ∈ es, f.A b) ∨ B.heap.size ≤ b) → ∀ e ∈ F, ∀ b, e.A b → (∃ f ∈ es, f.A b) ∨ B.heap.size ≤ b := by
  intro F h1 h2 e he b hb
  by_cases hw : e.W b
  · have h3 := hs.sub h1
    rcases h3.ownW e (List.mem_append_left _ he) b hw with h4 | ⟨p, hp, h4⟩
    · exact .inr h4
    · rw [List.mem_singleton.1 hp] at h4
      rcases h4 with rfl | ⟨f, hf, h4⟩
      · have h5 := (List.pairwise_append.1 h3.apart).2.2 e he ⟨b, some busy, false, none⟩ (List.mem_singleton.2 rfl)
        exact absurd (by simp) ((h5 b).1 hw)
      · exact .inl ⟨f, hf, h4.a⟩
  · exact h2 e he b hb hw
 cases x with
 | normal => obtain ⟨y, h0, h1, h2⟩ := hr; exact ⟨s, hf, hs, y, h0, h1, key _ h1 h2⟩
 | ret => obtain ⟨y, h0, h1, h2⟩ := hr; exact ⟨s, hf, hs, y, h0, h1, key _ h1 h2⟩
 | exit id => obtain ⟨y, h0, h1, h2⟩ := hr; exact ⟨s, hf, hs, y, h0, h1, key _ h1 h2⟩
 | _ => exact hr.elim
theorem rfiO {C : Cx} (hT : TabOk C.P C.T) (hF : C.F = none) {g : Operand} {ps : Array Tmp} {assign body : Code} {K : Exit → Sy → Prop} {σ : Fr} {L0 L : List Ent} {D : List Deferred} {gf : FuncId} {lb : Array Value} {I α β : Type} {i0 : I} {nx : I → List Value → List Ent → I → Prop} {fin : I → Prop} {H : Res}
 (hcl : QM C.T gf = true) (hg : ev σ g (· = .func (.func gf) #[] lb)) (hit : ItrO C.P gf lb.toList i0 nx fin H) (Inv : I → α → Prop) (E : I → α → List Ent) (S : β → List Ent × Code) (hS : ∀ y, (S y).2 = .ret ∨ ∃ id, (S y).2 = .exit id) (x0 : α) (hi0 : Inv i0 x0) (hL : (L0 ++ E i0 x0).Perm L)
 (hH : ∀ w, St C.M C.B w (L0 ++ E i0 x0) → H.p w ∧ ∀ b, H.A b → ∀ e ∈ E i0 x0, ¬ e.W b) (hps : ∀ i args q j, nx i args q j → args.length = ps.size)
 (round : ∀ l i args q j x w ready busy, nx i args q j → Inv i x → cx ⟨C.P, C.T, C.N, [fun b => b = l ∨ ∃ e ∈ E i x ++ q, e.W b], w, some l⟩ assign (beginK ⟨C.P, C.T, C.N, [fun b => b = l ∨ ∃ e ∈ E i x ++ q, e.W b], w, some l⟩ body (roundW Inv E S l busy w (E i x ++ q) j) l (L0.length + (E i x ++ q).length) ready busy)
  ⟨qcR C.N ps.toList args σ, L0.map Ent.rd ++ (E i x ++ q) ++ [⟨l, some ready, false, none⟩], []⟩)
 (done : ∀ i y b0, fin i → Inv i y → K .normal ⟨σ, L0 ++ E i y ++ [dfe b0], { target := .collected b0, args := #[] } :: D⟩)
 (stop : ∀ y b0, K (qcG (S y).2) ⟨σ, L0 ++ (S y).1 ++ [dfe b0], { target := .collected b0, args := #[] } :: D⟩) : CodeP C (.rangeFunc g ps assign body) K ⟨σ, L, D⟩ := by
 refine CodeP.from (L' := L0 ++ [rs (qH (QS (Inv i0 x0) :: E i0 x0))]) (fun w hs => ?_) ?_
 · have h1 : St C.M C.B w (L0 ++ (QS (Inv i0 x0) :: E i0 x0)) := ((hs.perm hL).fact hi0).perm List.perm_middle
   simpa using St.pack (Y := []) (by simpa using h1)
 have hset : ∀ e e' : Ent, (L0 ++ [e]).set L0.length e' = L0 ++ [e'] := fun e e' => by simp
 refine CodeP.mono (K := fun x s => (∀ w, St C.M C.B w s.L → False) ∨ ∃ L', (∀ w, St C.M C.B w s.L → St C.M C.B w L') ∧ K x ⟨s.σ, L', s.D⟩) (fun x a w ⟨s, h1, h2, h3⟩ => ?_) ?_
 · rcases h3 with h3 | ⟨L', h3, h4⟩
   · exact (h3 w h2).elim
   · exact ⟨⟨s.σ, L', s.D⟩, ⟨h1.size, h1.defers, h1.slot⟩, h3 w h2, h4⟩
 refine rfO' hT hF hcl hg hit L0.length (fun i x => rs (qH (QS (Inv i x) :: E i x))) (fun y => (rs (qH (S y).1), (S y).2)) hS x0 (by simp) (fun w hs => ?_) hps (fun l i args q j x w ready busy hn => ?_) (fun i y b0 hf => ?_) (fun y b0 => ?_)
 · have h1 := hH w ((St.unpack (Y := []) (by simpa using hs)).sub (by simpa using sub_mid L0 (QS (Inv i0 x0)) (E i0 x0)))
   exact ⟨h1.1, fun b hb hw => by
    obtain ⟨e, he, hw⟩ := (Z6 _ _).1 hw
    rcases List.mem_cons.1 he with rfl | he
    · exact factW _ b hw
    · exact h1.2 b hb e he hw⟩
 · by_cases hI : Inv i x
   · have hM : (fun b => b = l ∨ (rs (qH (rs (qH (QS (Inv i x) :: E i x)) :: q))).W b) = fun b => b = l ∨ ∃ e ∈ E i x ++ q, e.W b := by
      funext b; rw [Z6]
      refine propext ⟨fun h => h.imp id fun ⟨e, he, hw⟩ => ?_, fun h => h.imp id fun ⟨e, he, hw⟩ => ?_⟩
      · rcases List.mem_cons.1 he with rfl | he
        · obtain ⟨e, he, hw⟩ := (Z6 _ _).1 hw
          rcases List.mem_cons.1 he with rfl | he
          · exact absurd hw (factW _ b)
          · exact ⟨e, List.mem_append_left _ he, hw⟩
        · exact ⟨e, List.mem_append_right _ he, hw⟩
      · rcases List.mem_append.1 he with he | he
        · exact ⟨_, List.mem_cons_self .., (Z6 _ _).2 ⟨e, List.mem_cons_of_mem _ he, hw⟩⟩
        · exact ⟨e, List.mem_cons_of_mem _ he, hw⟩
     rw [hM]
     have h1 := ZO (C := ⟨C.P, C.T, C.N, [fun b => b = l ∨ ∃ e ∈ E i x ++ q, e.W b], w, some l⟩) hT assign _ _ (round l i args q j x w ready busy hn hI)
     refine CodeP.from (L' := L0.map Ent.rd ++ (E i x ++ q) ++ [⟨l, some ready, false, none⟩]) (fun w' hs => ?_) (h1.mono fun e a w' h => ?_)
     · have e1 : (List.map Ent.rd (L0 ++ [rs (qH (QS (Inv i0 x0) :: E i0 x0))])).set L0.length (rs (qH (rs (qH (QS (Inv i x) :: E i x)) :: q))) ++ [⟨l, some ready, false, none⟩] = L0.map Ent.rd ++ [rs (qH (rs (qH (QS (Inv i x) :: E i x)) :: q))] ++ [⟨l, some ready, false, none⟩] := by
        rw [List.map_append]; simp [List.set_append_right]
       rw [e1] at hs
       have h2 := hs.unpack
       have h3 : St [fun b => b = l ∨ ∃ e ∈ E i x ++ q, e.W b] w w' (L0.map Ent.rd ++ [rs (qH (QS (Inv i x) :: E i x))] ++ (q ++ [⟨l, some ready, false, none⟩])) := by simpa [List.append_assoc] using h2
       have h4 := h3.unpack
       have e2 : L0.map Ent.rd ++ QS (Inv i x) :: E i x ++ (q ++ [⟨l, some ready, false, none⟩]) = L0.map Ent.rd ++ (QS (Inv i x) :: (E i x ++ q ++ [⟨l, some ready, false, none⟩])) := by simp [List.append_assoc]
       rw [e2] at h4
       rw [List.append_assoc]
       exact h4.sub (sub_mid _ _ _)
     · obtain ⟨s, hf, hs, h2⟩ := h
       cases e with
       | normal =>
        obtain ⟨h3, h4⟩ := h2
        have h5 := (ZO (C := ⟨C.P, C.T, C.N, [fun b => b = l ∨ ∃ e ∈ E i x ++ q, e.W b], w, some l⟩) hT body _ _ h4).mono fun e a w' h => qdA (C := ⟨C.P, C.T, C.N, [fun b => b = l ∨ ∃ e ∈ E i x ++ q, e.W b], w, some l⟩) e a w' (roundI_M e a w' (roundW_I e a w' h))
        have h5 := h5.imp fun e s h => roundK_sub (l := l) (busy := busy) (e' := rs (qH (rs (qH (QS (Inv i x) :: E i x)) :: q))) (fun b hb => by
         obtain ⟨e, he, hb⟩ := (Z7 _ _).1 hb
         refine (Z7 _ _).2 ?_
         rcases List.mem_append.1 he with he | he
         · exact ⟨_, List.mem_cons_self .., (Z7 _ _).2 ⟨e, List.mem_cons_of_mem _ he, hb⟩⟩
         · exact ⟨e, List.mem_cons_of_mem _ he, hb⟩) e s h
        obtain ⟨hlt, hget⟩ := List.getElem?_eq_some_iff.1 h3
        have hsp : s.L = s.L.take (L0.length + (E i x ++ q).length) ++ ⟨l, some ready, false, none⟩ :: s.L.drop (L0.length + (E i x ++ q).length + 1) := by
         rw [← hget]; simp
        have hset2 : s.L.set (L0.length + (E i x ++ q).length) ⟨l, some busy, false, none⟩ = s.L.take (L0.length + (E i x ++ q).length) ++ ⟨l, some busy, false, none⟩ :: s.L.drop (L0.length + (E i x ++ q).length + 1) := List.set_eq_take_append_cons_drop.trans (if_pos hlt)
        rw [hset2] at h5
        generalize s.L.take (L0.length + (E i x ++ q).length) = A at *
        generalize s.L.drop (L0.length + (E i x ++ q).length + 1) = Z at *
        refine ⟨⟨s.σ, List.replicate (L0.length + 1) dead ++ ⟨l, some ready, false, none⟩ :: (A ++ Z), s.D⟩, ⟨hf.size, hf.defers, hf.slot⟩, ?_, ?_, ?_⟩
        · rw [hsp] at hs
          exact (hs.perm List.perm_middle.symm).pad _
        · simp
        · refine CodeP.from (L' := A ++ ⟨l, some busy, false, none⟩ :: Z) (fun w2 hs2 => ?_) h5
          have e2 : (List.replicate (L0.length + 1) dead ++ (⟨l, some ready, false, none⟩ : Ent) :: (A ++ Z)).set (L0 ++ [rs (qH (QS (Inv i0 x0) :: E i0 x0))]).length ⟨l, some busy, false, none⟩ = List.replicate (L0.length + 1) dead ++ (⟨l, some busy, false, none⟩ : Ent) :: (A ++ Z) := by
           rw [List.set_append_right _ _ (by simp)]; simp
          rw [e2] at hs2
          exact (hs2.sub (Sub.padL _ _)).perm List.perm_middle
       | _ => exact h2.elim
   · refine CodeP.no fun w' hs => hI ?_
     have e1 : (List.map Ent.rd (L0 ++ [rs (qH (QS (Inv i0 x0) :: E i0 x0))])).set L0.length (rs (qH (rs (qH (QS (Inv i x) :: E i x)) :: q))) ++ [⟨l, some ready, false, none⟩] = L0.map Ent.rd ++ [rs (qH (rs (qH (QS (Inv i x) :: E i x)) :: q))] ++ [⟨l, some ready, false, none⟩] := by
      rw [List.map_append]; simp [List.set_append_right]
     rw [e1] at hs
     have h2 := hs.unpack
     have h3 : St [fun b => b = l ∨ (rs (qH (rs (qH (QS (Inv i x) :: E i x)) :: q))).W b] w w' (L0.map Ent.rd ++ [rs (qH (QS (Inv i x) :: E i x))] ++ (q ++ [⟨l, some ready, false, none⟩])) := by simpa [List.append_assoc] using h2
     exact h3.unpack.factP (by simp)
 · by_cases hI : Inv i y
   · refine .inr ⟨L0 ++ E i y ++ [dfe b0], fun w hs => ?_, done i y b0 hf hI⟩
     rw [hset] at hs
     have h2 := hs.unpack
     rw [List.append_assoc] at h2 ⊢
     exact h2.sub (sub_mid _ _ _)
   · refine .inl fun w hs => hI ?_
     rw [hset] at hs
     exact hs.unpack.factP (by simp)
 · refine .inr ⟨L0 ++ (S y).1 ++ [dfe b0], fun w hs => ?_, stop y b0⟩
   rw [hset] at hs
   exact hs.unpack
end
end Go.Sx
section
namespace Go.Sx
open Go Go.RowKit
theorem itrE {P : Program} {T : Tab} (hT : TabOk P T) {g : FuncId} {fn : Func} {c : Code} (hf : P.funcs[g]? = some fn) (hb : fn.body = some c) {N : Nat} (hN : fn.ntmps = N) {lb : List Value} (hle : Nat.ble (lb.length + 1) N = true) {I : Type} {i0 : I} {nx : I → List Value → I → Prop} {fin : I → Prop} {H : Res} (hw : ∀ k, ¬ H.w k)
 (h : ∀ (l : Nat) (α β : Type) (R : I → α → Res) (S : β → Res) (W : World) (x0 : α),
  (∀ i args j x w, nx i args j → (R i x).p w → ∀ m, YieldAt Fence.wide m P l args.toArray w fun e w' => (e = .returned (.bool true) ∧ ∃ y, Turns w w' (R i x) (R j y)) ∨ (e = .returned (.bool false) ∧ ∃ y, Turns w w' (R i x) (S y))) →
  cx ⟨P, T, N, [fun k => (R i0 x0).w k], W, none⟩ c (retK ⟨P, T, N, [fun k => (R i0 x0).w k], W, none⟩ fn fun v w' => (∃ i y, fin i ∧ Turns W w' (R i0 x0) (R i y)) ∨ ∃ y, Turns W w' (R i0 x0) (S y)) ⟨par 0 (.func (.yield l) #[] #[] :: lb), [rs (R i0 x0), rs H], []⟩) : Itr P g lb i0 nx fin H := by
 refine ⟨fun l α β R S W x0 hR hH hd hround => ?_⟩
 have hst : St [fun k => (R i0 x0).w k] W W [rs (R i0 x0), rs H] := by
  refine St.from W _ _ (fun y hy => ?_) ?_
  · simp only [List.mem_cons, List.not_mem_nil, or_false] at hy
    rcases hy with rfl | rfl
    · exact ⟨by simpa using hR, fun k hk => ⟨_, List.mem_singleton.2 rfl, by simpa using hk⟩⟩
    · exact ⟨(qc0 _ _).2 hH, fun k hk => (hw k ((rsW _ _).1 hk)).elim⟩
  · refine .cons (fun y hy => ?_) (.cons (fun y hy => by simp at hy) .nil)
    obtain rfl : y = rs H := by simpa using hy
    exact fun k => ⟨fun h1 h2 => hd k ((rsA _ _).1 h2) ((rsW _ _).1 h1), fun h1 => (hw k ((rsW _ _).1 h1)).elim⟩
 exact (enter (vs := .func (.yield l) #[] #[] :: lb) hT hf hb hN hle hst (h l α β R S W x0 hround)).mono fun e w' ⟨v, he, h⟩ => ⟨⟨v, he⟩, h⟩
theorem Turns.fin {r0 r : Res} {W w' : World} {L : List Ent} (hs : St [fun k => r0.w k] W w' L) (h0 : L[0]? = some (rs r)) (hA : ∀ k, r.A k → r0.A k ∨ W.heap.size ≤ k) : Turns W w' r0 r := by
 refine Turns.of_st hs (fun k hk => by simpa using hk) (hs.res h0) (fun k hk => ?_) hA
 rcases hs.ownW _ (List.mem_of_getElem? h0) k (by simpa using hk) with h | h
 · exact .inr h
 · exact .inl (by simpa using h)
theorem Itr.toO {P : Program} {g : FuncId} {lb : List Value} {I : Type} {i0 : I} {nx : I → List Value → I → Prop} {fin : I → Prop} {H : Res} (h : Itr P g lb i0 nx fin H) : ItrO P g lb i0 (fun i args q j => q = [] ∧ nx i args j) fin H := by
 refine ⟨fun l α β R S W x0 hR hH hd hround => h.go l α β R S W x0 hR hH hd fun i args j x w hn hp m => ?_⟩
 have hw : ∀ k, (qH [rs (R i x)]).w k → (R i x).w k := fun k ⟨e, he, hk⟩ => by rw [List.mem_singleton.1 he] at hk; exact (rsW _ _).1 hk
 have hA : ∀ k, (qH [rs (R i x)]).w k ∨ (qH [rs (R i x)]).r k → (R i x).w k ∨ (R i x).r k := fun k hk => by
  obtain ⟨e, he, hk⟩ := (Z7 [rs (R i x)] k).1 ((rsA _ _).2 hk)
  rw [List.mem_singleton.1 he] at hk; exact (rsA _ _).1 hk
 refine YieldAt.mono (hround i args [] j x w ⟨rfl, hn⟩ (fun e he => by simp at he) ⟨fun e he => by rw [List.mem_singleton.1 he]; exact (qc0 _ _).2 hp, by simp⟩ m) fun e w' hr => ?_
 exact hr.imp (fun ⟨h1, y, h2⟩ => ⟨h1, y, h2.more hw hA⟩) (fun ⟨h1, y, h2⟩ => ⟨h1, y, h2.more hw hA⟩)
end Go.Sx
namespace Go.Proofs.YtbgefoamhdgnaaaGreatDoor
open Go.RowKit Go.Sx
def bkH (Bs b len cap : Nat) (kd : IntKind) (g : Nat → Int) (t : TypeId) : Res where
 w _ := False
 r k := k = Bs ∨ k = b
 p u := u.heap[Bs]? = some (.cells #[.slice (some ⟨b, 0, none⟩) len cap] t (0, 0)) ∧ b < u.heap.size ∧ ∀ j, j < len → u.cell? ⟨b, j, none⟩ = some (.int kd (g j))
 st u v h := fun ⟨h1, h2, h3⟩ => ⟨(h _ (.inr (.inl rfl))).trans h1, (Array.getElem?_eq_some_iff.1 ((h _ (.inr (.inr rfl))).trans (Array.getElem?_eq_getElem h2))).1, fun j hj => (World.cell?_of_block (w := u) (w' := v) (a := ⟨b, j, none⟩) (h _ (.inr (.inr rfl)))).trans (h3 j hj)⟩
 bd u := fun ⟨h1, h2, _⟩ k hk => by
  rcases hk with hk | rfl | rfl
  · exact hk.elim
  · exact (Array.getElem?_eq_some_iff.1 h1).1
  · exact h2
def bkNx (kd : IntKind) (len : Nat) (g : Nat → Int) (k : Nat) (args : List Value) (k' : Nat) : Prop := k < len ∧ args = [.int .i64 ((len - 1 - k : Nat) : Int), .int kd (g (len - 1 - k))] ∧ k' = k + 1
def bfNx (len : Nat) (g : Nat → Int) (k : Nat) (args : List Value) (k' : Nat) : Prop := k < len ∧ args = [.int .u32 (g (len - 1 - k))] ∧ k' = k + 1
section
variable {M : Bks} {B w : World} {L : List Ent} {k Bs b len cap : Nat} {kd : IntKind} {g : Nat → Int} {t : TypeId}
theorem qeh (hs : St M B w L) (h : L[k]? = some (rs (bkH Bs b len cap kd g t))) : w.cell? ⟨Bs, 0, none⟩ = some (.slice (some ⟨b, 0, none⟩) len cap) := by
 have := (hs.res h : _ ∧ _).1
 simp [World.cell?, this]
theorem bk_at (hs : St M B w L) (h : L[k]? = some (rs (bkH Bs b len cap kd g t))) (j : Nat) (hj : j < len) : w.cell? ⟨b, nad 0 (nmu (Int.toNat ((j : Nat) : Int)) 1), none⟩ = some (.int kd (g j)) := by
 rw [qi, qh, Nat.zero_add, Nat.mul_one, Int.toNat_natCast]; exact (hs.res h : _ ∧ _).2.2 j hj
end
theorem bk8_itr (Bs b len cap : Nat) (g : Nat → Int) (hl : len ≤ 1000000) : Itr Tryz.prog 223 [ptr Bs] 0 (bkNx .u8 len g) (fun k => k = len) (bkH Bs b len cap .u8 g 48) := by
 refine itrE qc Tryz.func223 rfl Tryz.ntmps223 rfl (fun _ h => h) (fun l α β R S W x0 hround => ?_)
 refine .mk (.slice (some ⟨b, 0, none⟩) len cap) (fun w' hs => qeh (k := 1) hs rfl) ?_
 refine .as ((len : Int) - 1 - ((0 : Nat) : Int)) (by omega) (by simp only [mn]; omega) (by simp only [mx]; omega) ?_
 refine lp qc (fun q : Nat × α => q.1 ≤ len ∧ ∀ k, (R q.1 q.2).A k → (R 0 x0).A k ∨ W.heap.size ≤ k) (fun q => ⟨[(0, .func (.yield l) #[] #[]), (1, ptr Bs), (3, .int .i64 ((len : Int) - 1 - (q.1 : Int)))], [rs (R q.1 q.2), rs (bkH Bs b len cap .u8 g 48)], []⟩) (fun q => len - q.1) (0, x0) ⟨Nat.zero_le _, fun k h => .inl h⟩ ⟨⟨rfl, rfl, rfl, trivial⟩, .refl _, rfl⟩ ?_
 rintro ⟨i, y⟩ ⟨hi, hA⟩
 dsimp only at hi hA ⊢
 refine cd (fun h => ?_) (fun h => ?_)
 · have hlt : i < len := by omega
   rw [show (len : Int) - 1 - (i : Int) = ((len - 1 - i : Nat) : Int) by omega]
   refine .mk (.slice (some ⟨b, 0, none⟩) len cap) (fun w' hs => qeh (k := 1) hs rfl) ?_
   refine ⟨by omega, by omega, ?_⟩
   refine .mk (.int .u8 (g (len - 1 - i))) (fun w' hs => bk_at (k := 1) hs rfl _ (by omega)) ?_
   refine yd (α := α) (β := β) (R := R) (S := S) (nx := bkNx .u8 len g) (i := i) (j := i + 1) (x := y) 0 rfl hround ⟨hlt, rfl, rfl⟩ (fun z hA2 => ?_) (fun z hA2 => ?_)
   · refine cf rfl ?_
     refine .as ((len : Int) - 1 - ((i + 1 : Nat) : Int)) (by omega) (by simp only [mn]; omega) (by simp only [mx]; omega) ?_
     exact ⟨(i + 1, z), ⟨hlt, fun b hb => (hA2 b hb).elim (hA b) .inr⟩, by dsimp only; omega, ⟨⟨rfl, rfl, rfl, trivial⟩, .refl _, rfl⟩⟩
   · refine ct rfl ?_
     exact ⟨fun w1 hs => .inr ⟨z, Turns.fin hs rfl fun b hb => (hA2 b hb).elim (hA b) .inr⟩⟩
 · exact ⟨fun w1 hs => .inl ⟨i, y, by omega, Turns.fin hs rfl hA⟩⟩
theorem bk32_itr (Bs b len cap : Nat) (g : Nat → Int) (hl : len ≤ 1000000) : Itr Tryz.prog 271 [ptr Bs] 0 (bkNx .u32 len g) (fun k => k = len) (bkH Bs b len cap .u32 g 208) := by
 refine itrE qc Tryz.func271 rfl Tryz.ntmps271 rfl (fun _ h => h) (fun l α β R S W x0 hround => ?_)
 refine .mk (.slice (some ⟨b, 0, none⟩) len cap) (fun w' hs => qeh (k := 1) hs rfl) ?_
 refine .as ((len : Int) - 1 - ((0 : Nat) : Int)) (by omega) (by simp only [mn]; omega) (by simp only [mx]; omega) ?_
 refine lp qc (fun q : Nat × α => q.1 ≤ len ∧ ∀ k, (R q.1 q.2).A k → (R 0 x0).A k ∨ W.heap.size ≤ k) (fun q => ⟨[(0, .func (.yield l) #[] #[]), (1, ptr Bs), (3, .int .i64 ((len : Int) - 1 - (q.1 : Int)))], [rs (R q.1 q.2), rs (bkH Bs b len cap .u32 g 208)], []⟩) (fun q => len - q.1) (0, x0) ⟨Nat.zero_le _, fun k h => .inl h⟩ ⟨⟨rfl, rfl, rfl, trivial⟩, .refl _, rfl⟩ ?_
 rintro ⟨i, y⟩ ⟨hi, hA⟩
 dsimp only at hi hA ⊢
 refine cd (fun h => ?_) (fun h => ?_)
 · have hlt : i < len := by omega
   rw [show (len : Int) - 1 - (i : Int) = ((len - 1 - i : Nat) : Int) by omega]
   refine .mk (.slice (some ⟨b, 0, none⟩) len cap) (fun w' hs => qeh (k := 1) hs rfl) ?_
   refine ⟨by omega, by omega, ?_⟩
   refine .mk (.int .u32 (g (len - 1 - i))) (fun w' hs => bk_at (k := 1) hs rfl _ (by omega)) ?_
   refine yd (α := α) (β := β) (R := R) (S := S) (nx := bkNx .u32 len g) (i := i) (j := i + 1) (x := y) 0 rfl hround ⟨hlt, rfl, rfl⟩ (fun z hA2 => ?_) (fun z hA2 => ?_)
   · refine cf rfl ?_
     refine .as ((len : Int) - 1 - ((i + 1 : Nat) : Int)) (by omega) (by simp only [mn]; omega) (by simp only [mx]; omega) ?_
     exact ⟨(i + 1, z), ⟨hlt, fun b hb => (hA2 b hb).elim (hA b) .inr⟩, by dsimp only; omega, ⟨⟨rfl, rfl, rfl, trivial⟩, .refl _, rfl⟩⟩
   · refine ct rfl ?_
     exact ⟨fun w1 hs => .inr ⟨z, Turns.fin hs rfl fun b hb => (hA2 b hb).elim (hA b) .inr⟩⟩
 · exact ⟨fun w1 hs => .inl ⟨i, y, by omega, Turns.fin hs rfl hA⟩⟩
theorem bkf_itr (Bs b len cap : Nat) (g : Nat → Int) (hl : len ≤ 1000000) : Itr Tryz.prog 251 [ptr Bs] 0 (bfNx len g) (fun k => k = len) (bkH Bs b len cap .u32 g 208) := by
 refine itrE qc Tryz.func251 rfl Tryz.ntmps251 rfl (fun _ h => h) (fun l α β R S W x0 hround => ?_)
 intro bY
 refine .mk (.slice (some ⟨b, 0, none⟩) len cap) (fun w' hs => qeh (k := 1) hs rfl) ?_
 refine inl qc Tryz.func252 rfl Tryz.ntmps252 rfl ?_
 intro BS
 refine bk ?_
 refine rfx (C := ⟨Tryz.prog, tab, 13, [fun k => (R 0 x0).w k], W, none⟩) (α := α) (β := β) qc rfl rfl rfl (bk32_itr BS b len cap g hl) 0 (fun i y => rs (R i y)) (fun y => (rs (S y), .ret)) (fun y => .inl rfl) x0 rfl
  (fun w' hs => ⟨⟨hs.nth (k := 3) rfl, (hs.res (k := 1) rfl : _ ∧ _).2⟩, ?_⟩) ?_ ?_ ?_ ?_
 · rintro k (hk | rfl | rfl) hw
   · exact hk.elim
   · exact (QG hs.apart (i := 0) (j := 3) rfl rfl (by decide) _).1 hw (by simp)
   · exact (QG hs.apart (i := 0) (j := 1) rfl rfl (by decide) _).1 hw ((rsA _ _).2 (.inr (.inr rfl)))
 · rintro i args j ⟨_, rfl, _⟩; rfl
 · rintro lq i args j x w' ready busy ⟨hi, rfl, rfl⟩
   refine ZO (C := ⟨Tryz.prog, tab, 13, [fun b => b = lq ∨ (rs (R i x)).W b], w', some lq⟩) qc _ _ _ ?_
   refine ⟨rfl, ?_⟩
   refine ZO (C := ⟨Tryz.prog, tab, 13, [fun b => b = lq ∨ (rs (R i x)).W b], w', some lq⟩) qc _ _ _ ?_
   refine ld1 2 rfl (v := .func (.yield l) #[] #[]) rfl ?_
   refine yd (α := α) (β := β) (R := R) (S := S) (nx := bfNx len g) (i := i) (j := i + 1) (x := x) 0 rfl hround ⟨hi, rfl, rfl⟩ (fun z hA2 => ?_) (fun z hA2 => ?_)
   · refine cf rfl ?_
     exact ⟨z, .cons (.drop (.drop (.drop (.cons .nil)))), fun b hb => (hA2 b ((rsA _ _).1 hb)).imp (rsA _ _).2 id⟩
   · refine ct rfl ?_
     exact ⟨z, rfl, .cons (.drop (.drop (.drop (.cons .nil)))), fun b hb => (hA2 b ((rsA _ _).1 hb)).imp (rsA _ _).2 id⟩
 · intro i y b0 hA hf
   refine .mk 4 rfl ?_
   exact ⟨fun w1 hs => .inl ⟨i, y, hf, Turns.fin hs rfl fun b hb => (hA b ((rsA _ _).2 hb)).imp (rsA _ _).1 id⟩⟩
 · intro y b0 hA
   refine .mk 4 rfl ?_
   exact ⟨fun w1 hs => .inr ⟨y, Turns.fin hs rfl fun b hb => (hA b ((rsA _ _).2 hb)).imp (rsA _ _).1 id⟩⟩
end Go.Proofs.YtbgefoamhdgnaaaGreatDoor
end
namespace Go.Proofs.YtbgefoamhdgnaaaGreatDoor
section
open Go.RowKit Go.Sx
theorem info91 : (Tryz.prog.info? 127).map (fun i => (i.zero, i.size, i.bytes)) = some (some (.int .u32 0), 1, 4) := by kernel_rfl
theorem und32 : Tryz.prog.underlying 208 = some (.slice 127) := by kernel_rfl
theorem bs32 (x : Int) (w : World) : (Instr.buildSlice 208 1 #[(0, .int .u32 x)]).run Tryz.prog w = .ok (.slice (some ⟨w.heap.size, 0, none⟩) 1 1) (w.alloc (.cells #[.int .u32 x] 127)) := by
 obtain ⟨i, hi, hz, hs, hb⟩ := Qg info91
 exact run_buildSlice w _ _ 1 _ #[.int .u32 x] i (.int .u32 0) und32 hi hz (by rw [hs]; decide) (by rw [hs]; decide) (by rw [hs]; kernel_rfl)
theorem qeF (kd : IntKind) (k : Nat) (f : Nat → Int) : Qc kd (k + 1) f = Qc kd k f ++ [.int kd (f k)] := by simp [Qc, List.range_succ]
theorem svc (r : Sx.Own) (n : Nat) : (sv r n).oneCell' = true ∧ (sv r n).cells = #[sv r n] := by rcases r with _ | ⟨_, _, _⟩ <;> exact ⟨rfl, rfl⟩
def bkg (len : Nat) (g : Nat → Int) : Nat → Int := fun k => g (len - 1 - k)
theorem qcW (Bs b len cap : Nat) (g : Nat → Int) (hl : len ≤ 1000000) (w : World) (hH : (bkH Bs b len cap .u32 g 208).p w) :
 Calls Tryz.prog 216 ([.func (.func 251) #[] #[ptr Bs]] : List Value).toArray w fun e w' => ∃ r : Sx.Own, e = .returned (sv r len) ∧ Rw 1 len r (Qc .u32 len (bkg len g)) ∧ zq w w' r (Qc .u32 len (bkg len g)) 127 ∧ Below w.heap.size w w' := by
 have hst : St [] w w [rs (bkH Bs b len cap .u32 g 208)] := St.reads fun e he => by
  rw [List.mem_singleton.1 he]; exact ⟨(qc0 _ _).2 hH, fun k hk => (rsW _ _).1 hk⟩
 refine (enter (vs := [.func (.func 251) #[] #[ptr Bs]]) (R := fun v w' => ∃ r : Sx.Own, Rw 1 len r (Qc .u32 len (bkg len g)) ∧ v = sv r len ∧ zq w w' r (Qc .u32 len (bkg len g)) 127 ∧ Below w.heap.size w w') qc Tryz.func216 rfl Tryz.ntmps216 rfl hst ?_).mono (fun e w' ⟨v, he, r, h1, h2, h3⟩ => ⟨r, by rw [he, h2], h1, h3⟩)
 refine inl qc Tryz.func250 rfl Tryz.ntmps250 rfl ?_
 intro b2
 refine CodeP.from (fun w' hs => hs.deads) ?_
 refine rfiO (C := ⟨Tryz.prog, tab, 13, [], w, none⟩) (L0 := [rs (bkH Bs b len cap .u32 g 208)]) (α := Sx.Own) (β := Empty) qc rfl rfl rfl (bkf_itr Bs b len cap g hl).toO (fun k r => Rw 1 k r (Qc .u32 k (bkg len g))) (fun k r => [cl b2 #[sv r k] 208, se r (Qc .u32 k (bkg len g)) 127]) (fun y => y.elim) (fun y => y.elim) none (Rw.nil 1) (.refl _)
  (fun w' hs => ⟨hs.res (k := 0) rfl, fun x hx e he hw => ?_⟩) ?_ ?_ ?_ (fun y => y.elim)
 · obtain ⟨i, hi⟩ := List.getElem?_of_mem he
   exact (QG hs.apart (i := i + 1) (j := 0) (by simpa using hi) rfl (by omega) x).1 hw ((rsA _ _).2 hx)
 · rintro i args q j ⟨rfl, _, rfl, _⟩; rfl
 · rintro lq k args q j r w' ready busy ⟨rfl, hk, rfl, rfl⟩ hR
   refine ⟨rfl, ?_⟩
   refine ld1 1 rfl (v := sv r k) rfl ?_
   refine .mk #[.int .u32 (g (len - 1 - k))] 127 (fun w => bs32 _ w) (fun bn => ?_)
   refine ap1 2 4 qc rfl info91 rfl rfl hR rfl rfl (by omega) (by unfold maxLen; omega) (fun r' hR' => ?_)
   have hl2 : Qc .u32 k (bkg len g) ++ [Value.int .u32 (g (len - 1 - k))] = Qc .u32 (k + 1) (bkg len g) := (qeF _ _ _).symm
   rw [hl2] at hR' ⊢
   refine s1e 1 #[sv r' (k + 1)] rfl (show 0 < 1 by decide) rfl ?_ (h2 := (svc r' (k + 1)).1) (h3 := (svc r' (k + 1)).2)
   refine ⟨r', hR', .drop (.cons (.cons (.cons (.drop .nil)))), fun e he x hx hn => absurd ?_ hn⟩
   simp only [List.mem_cons, List.not_mem_nil, or_false] at he
   rcases he with rfl | rfl
   · simpa using hx
   · rcases r' with _ | ⟨_, _, _⟩
     · simp [se] at hx
     · simpa [se] using hx
 · intro k r b0 hf hR
   obtain rfl : k = len := hf
   refine ld1 1 rfl (v := sv r k) rfl ?_
   refine .mk 3 rfl ?_
   refine bk ?_
   exact ⟨fun w1 hs => ⟨r, hR, rfl, Qx hs rfl 2 rfl, hs.below⟩⟩
end
section
open Go.RowKit Go.Lib
def r22 (n : Nat) : Array Value := row .i64 22 (dg 4096 n)
theorem qg (n : Nat) : (r22 n).size = 22 := qR _ _ _
theorem qeS (D F G H x y bw bw' z : Int) (h : H = F - G + bw * D) (hz : z = x - y - bw + 4096 * bw') :
 H + z * D = (F + x * D) - (G + y * D) + bw' * (D * 4096) := by
 subst h hz; grind
theorem less_end (a b : Nat) (hab : b ≤ a) (ha : a < 4096 ^ 22) (h : Nat → Int) (bw : Int) (hb0 : 0 ≤ bw) (hb1 : bw ≤ 1) (hd : ∀ j, j < 22 → 0 ≤ h j ∧ h j < 4096)
 (hs : qn 4096 h 22 = qn 4096 (dg 4096 a) 22 - qn 4096 (dg 4096 b) 22 + bw * 4096 ^ 22) : row .i64 22 h = r22 (a - b) := by
 have e1 := zj 4096 a 22
 have e2 := zj 4096 b 22
 rw [Nat.mod_eq_of_lt ha] at e1
 rw [Nat.mod_eq_of_lt (by omega)] at e2
 have e3 : qn 4096 h 22 < 4096 ^ 22 := qaj 4096 (by decide) h 22 fun i hi => (hd i hi).2
 have e1' : qn 4096 (dg 4096 a) 22 = a := e1
 have e2' : qn 4096 (dg 4096 b) 22 = b := e2
 rw [e1', e2'] at hs
 have hbw : bw = 0 := by
  rcases (show bw = 0 ∨ bw = 1 by omega) with h0 | h0
  · exact h0
  · subst h0; omega
 subst hbw
 refine Qb _ _ _ _ (zL 4096 h (a - b) 22 hd ?_)
 show qn 4096 h 22 = _
 rw [hs]; omega
theorem qbR (a b : Nat) (hab : b ≤ a) (ha : a < 4096 ^ 22) (w : World) :
 Calls Tryz.prog 109 #[.agg (r22 a), .agg (r22 b)] w fun e w' => e = .returned (.agg (r22 (a - b))) ∧ Below w.heap.size w w' := by
 have hf := fun i => qad 4096 a i (by decide)
 have hg := fun i => qad 4096 b i (by decide)
 have hend := less_end a b hab ha
 have HF := Lib.hid hf; clear hf
 have HG := Lib.hid hg; clear hg
 have HE := Lib.hid hend; clear hend
 have H0 := Lib.hid hab; clear hab
 have H1 := Lib.hid ha; clear ha
 go_enter Tryz.func109, Tryz.ntmps109
 go_wp2_with fail
 go_loopw [5, 6] (fun u i wr => ∃ (k : Nat) (h : Nat → Int) (bw : Int), k ≤ 22 ∧ i = .int .i64 k ∧ u = .int .i64 bw ∧ 0 ≤ bw ∧ bw ≤ 1 ∧ (∀ j, k ≤ j → h j = dg 4096 a j) ∧ (∀ j, j < k → 0 ≤ h j ∧ h j < 4096) ∧ qn 4096 h k = qn 4096 (dg 4096 a) k - qn 4096 (dg 4096 b) k + bw * 4096 ^ k ∧ Has wr w.heap.size (row .i64 22 h) 101 ∧ Has wr (w.heap.size + 1) (r22 b) 101 ∧ HasN wr (w.heap.size + 1 + 1) 22 101 ∧ Below w.heap.size w wr) (fun _ i _ => 22 - (RowKit.intOf i).toNat)
 case atStart =>
  exact ⟨0, dg 4096 a, 0, by omega, rfl, rfl, by omega, by omega, fun _ _ => rfl, fun j hj => by omega, by simp [qn], ((Has.new _ _ _).alloc _).alloc _, (Has.new1 _ _ _ _).alloc _, HasN.new2 _ _ _ _ _ _ rfl, qax _ _ _ _⟩
 case round =>
  obtain ⟨k, h, bw, hk, rfl, rfl, hb0, hb1, hh, hd, hs, m0, m1, m2, hB⟩ := hrel
  have HH := Lib.hid hh; clear hh
  have HD := Lib.hid hd; clear hd
  have HS := Lib.hid hs; clear hs
  have M0 := Lib.hid m0; clear m0
  have M1 := Lib.hid m1; clear m1
  have M2 := Lib.hid m2; clear m2
  by_cases hlt : k < 22
  · have h1 := M0.out.cell k hlt
    have h2 := M1.out.cell k hlt
    have hfz := M0.out.frozen k
    have h3 := HF.out k
    have h4 := HG.out k
    rw [← HH.out k (Nat.le_refl _)] at h3
    obtain ⟨x, hx⟩ : ∃ x, x = h k := ⟨_, rfl⟩
    obtain ⟨y, hy⟩ : ∃ y, y = dg 4096 b k := ⟨_, rfl⟩
    rw [← hx] at h1 h3
    rw [← hy] at h2 h4
    have Hx := Lib.hid hx; clear hx
    have Hy := Lib.hid hy; clear hy
    obtain ⟨h30, h31⟩ := h3
    obtain ⟨h40, h41⟩ := h4
    go_wp2_with fail
    go_quiet (fail)
    go_wp2_with fail
    all_goals
     go_roundw
     case measure => simp [RowKit.intOf]; omega
     case rel =>
      first
      | (refine ⟨k + 1, upd h k (x - y - bw + 4096), 1, by omega, by go_num, rfl, by omega, by omega, ?_, ?_, ?_, (M0.out.drewN _).set _ _, M1.out.other _ _ (by simp), M2.out.other _ _ (by simp; omega), (z7 hB _).setCell (by simp) _⟩
         · intro j hj; rw [qs _ _ _ _ (by omega)]; exact HH.out j (by omega)
         · intro j hj
           by_cases e : j = k
           · subst e; rw [qu]; omega
           · rw [qs _ _ _ _ e]; exact HD.out j (by omega)
         · simp only [qn]
           rw [QB _ _ _ _ _ (Nat.le_refl _), qu, ← HH.out k (Nat.le_refl _), ← Hx.out, ← Hy.out, Int.pow_succ]
           exact qeS _ _ _ _ _ _ _ _ _ HS.out (by omega))
      | (refine ⟨k + 1, upd h k (x - y - bw), 0, by omega, by go_num, rfl, by omega, by omega, ?_, ?_, ?_, (M0.out.drewN _).set _ _, M1.out.other _ _ (by simp), M2.out.other _ _ (by simp; omega), (z7 hB _).setCell (by simp) _⟩
         · intro j hj; rw [qs _ _ _ _ (by omega)]; exact HH.out j (by omega)
         · intro j hj
           by_cases e : j = k
           · subst e; rw [qu]; omega
           · rw [qs _ _ _ _ e]; exact HD.out j (by omega)
         · simp only [qn]
           rw [QB _ _ _ _ _ (Nat.le_refl _), qu, ← HH.out k (Nat.le_refl _), ← Hx.out, ← Hy.out, Int.pow_succ]
           exact qeS _ _ _ _ _ _ _ _ _ HS.out (by omega))
  · obtain rfl : k = 22 := by omega
    obtain ⟨Z, hZ, m2⟩ := M2.out
    have HZ := Lib.hid hZ; clear hZ
    have M3 := Lib.hid m2; clear m2
    go_wp2_with (first | (refine wpList_load_row rfl 101 _ rfl w.heap.size rfl 101 (row .i64 22 h) (0, 0) _ M0.out Tryz.underlying101 rfl (by kernel_rfl) ?_) | (refine wpList_store_row rfl 101 _ _ rfl (w.heap.size + 1 + 1) _ rfl rfl 101 Z M3.out (by kernel_rfl) (HZ.out.trans (qR _ _ _).symm) (QA _ _ _) ?_))
    refine bodyPost_ret (v := .agg (r22 (a - b))) (results_cell_row (t := 101) (by rfl) _ _ (w.heap.size + 1 + 1) _ _ _ rfl ((M3.out.setRow _).trans (by rw [HE.out h bw hb0 hb1 HD.out HS.out])) Tryz.underlying101 rfl (by rw [qg]; kernel_rfl)) rfl ⟨rfl, qB hB _ _ (by omega)⟩
def PP : Nat := 57896044618658097711785492504343953926634992332820282019728792003956564819949
theorem qek : PP < 4096 ^ 22 := by decide +kernel
theorem prime_row : row .i64 22 (upd (upd (fun j => if j < 21 then 4095 else 0) 0 4077) 21 7) = r22 PP := by
 refine Qb _ _ _ _ ?_
 have : (List.range 22).all (fun i => upd (upd (fun j => if j < 21 then 4095 else 0) 0 4077) 21 7 i == dg 4096 PP i) = true := by decide +kernel
 intro i hi
 simpa using List.all_eq_true.1 this i (by simpa using hi)
theorem Z4 (w : World) : Calls Tryz.prog 110 #[] w fun e w' => e = .returned (.agg (r22 PP)) ∧ Below w.heap.size w w' := by
 go_enter Tryz.func110, Tryz.ntmps110
 go_wp2_with fail
 go_loopw [2] (fun i wr => ∃ (k : Nat), k ≤ 21 ∧ i = .int .i64 k ∧ Has wr (w.heap.size + 1) (row .i64 22 (fun j => if j < k then 4095 else 0)) 101 ∧ HasN wr w.heap.size 22 101 ∧ Below w.heap.size w wr) (fun i _ => 21 - (RowKit.intOf i).toNat)
 case atStart =>
  exact ⟨0, by omega, rfl, Has.new1 _ _ _ _, (HasN.new _ _ _ 22 rfl).alloc _, qb5 _ _ _⟩
 case round =>
  obtain ⟨k, hk, rfl, m0, m1, hB⟩ := hrel
  have M0 := Lib.hid m0; clear m0
  have M1 := Lib.hid m1; clear m1
  by_cases hlt : k < 21
  · have h1 := M0.out.cell k (by omega)
    have hfz := M0.out.frozen k
    go_wp2_with fail
    go_roundw
    case measure => simp [RowKit.intOf]; omega
    case rel =>
     refine ⟨k + 1, by omega, by go_num, ?_, M1.out.other _ _ (by simp), hB.setCell (by simp) _⟩
     have := M0.out.set k 4095
     rw [Qb _ _ _ (fun j => if j < k + 1 then 4095 else 0)] at this
     · exact this
     · intro i _
       by_cases e : i = k
       · subst e; rw [qu]; simp
       · rw [qs _ _ _ _ e]
         show (if i < k then (4095 : Int) else 0) = if i < k + 1 then 4095 else 0
         split <;> split <;> first | rfl | omega
  · obtain rfl : k = 21 := by omega
    have h1 := M0.out.cell 0 (by omega)
    have h2 := M0.out.cell 21 (by omega)
    have f1 := M0.out.frozen 0
    have f2 := M0.out.frozen 21
    have m2 := ((M0.out.set 0 4077).set 21 7)
    rw [prime_row] at m2
    have M2 := Lib.hid m2; clear m2
    obtain ⟨Z, hZ, m3⟩ := M1.out
    have M3 := Lib.hid ((m3.other ⟨w.heap.size + 1, 0, none⟩ (.int .i64 4077) (by simp)).other ⟨w.heap.size + 1, 21, none⟩ (.int .i64 7) (by simp)); clear m3
    have HZ := Lib.hid hZ; clear hZ
    go_wp2_with (first | (refine wpList_load_row rfl 101 _ rfl (w.heap.size + 1) rfl 101 (r22 PP) (0, 0) _ M2.out Tryz.underlying101 rfl (by kernel_rfl) ?_) | (refine wpList_store_row rfl 101 _ _ rfl w.heap.size _ rfl rfl 101 Z M3.out (by kernel_rfl) (HZ.out.trans (qg _).symm) (QA _ _ _) ?_))
    exact bodyPost_ret (v := .agg (r22 PP)) (results_cell_row (t := 101) (by rfl) _ _ w.heap.size _ _ _ rfl (M3.out.setRow _) Tryz.underlying101 rfl (by kernel_rfl)) rfl ⟨rfl, qB ((hB.setCell (by simp) _).setCell (by simp) _) _ _ (by omega)⟩
theorem below_end (a b k : Nat) (ha : a < 4096 ^ 22) (hb : b < 4096 ^ 22) (hk : k < 22) (heq : ∀ j, k < j → j < 22 → dg 4096 a j = dg 4096 b j) (hne : dg 4096 a k ≠ dg 4096 b k) : (dg 4096 a k < dg 4096 b k) ↔ a < b := by
 have e1 : qn 4096 (dg 4096 a) 22 = (a % 4096 ^ 22 : Nat) := zj 4096 a 22
 have e2 : qn 4096 (dg 4096 b) 22 = (b % 4096 ^ 22 : Nat) := zj 4096 b 22
 rw [Nat.mod_eq_of_lt ha] at e1
 rw [Nat.mod_eq_of_lt hb] at e2
 have up : ∀ n, k + 1 ≤ n → n ≤ 22 → qn 4096 (dg 4096 a) n - qn 4096 (dg 4096 b) n = qn 4096 (dg 4096 a) (k + 1) - qn 4096 (dg 4096 b) (k + 1) := by
  intro n hn
  induction n with
  | zero => omega
  | succ n ih =>
   intro h22
   by_cases hkn : k = n
   · subst hkn; rfl
   · have := ih (by omega) (by omega)
     have h2 := heq n (by omega) (by omega)
     simp only [qn] at this ⊢
     rw [h2]; omega
 have h3 := up 22 (by omega) (by omega)
 rw [e1, e2] at h3
 simp only [qn] at h3
 have p1 := Qf 4096 (by decide) (dg 4096 a) k (fun i _ => (qad 4096 a i (by decide)).1)
 have p2 := Qf 4096 (by decide) (dg 4096 b) k (fun i _ => (qad 4096 b i (by decide)).1)
 have q1 := qaj 4096 (by decide) (dg 4096 a) k (fun i _ => (qad 4096 a i (by decide)).2)
 have q2 := qaj 4096 (by decide) (dg 4096 b) k (fun i _ => (qad 4096 b i (by decide)).2)
 have hD : (0 : Int) < 4096 ^ k := Int.pow_pos (by decide)
 generalize (4096 : Int) ^ k = D at *
 generalize dg 4096 a k = x at *
 generalize dg 4096 b k = y at *
 constructor
 · intro h
   have : (x + 1) * D ≤ y * D := Int.mul_le_mul_of_nonneg_right (by omega) (by omega)
   rw [Int.add_mul] at this
   omega
 · intro h
   by_cases hh : x < y
   · exact hh
   · have : (y + 1) * D ≤ x * D := Int.mul_le_mul_of_nonneg_right (by omega) (by omega)
     rw [Int.add_mul] at this
     omega
theorem below_eq (a b : Nat) (ha : a < 4096 ^ 22) (hb : b < 4096 ^ 22) (heq : ∀ j, j < 22 → dg 4096 a j = dg 4096 b j) : a = b := by
 have e1 : qn 4096 (dg 4096 a) 22 = (a % 4096 ^ 22 : Nat) := zj 4096 a 22
 have e2 : qn 4096 (dg 4096 b) 22 = (b % 4096 ^ 22 : Nat) := zj 4096 b 22
 rw [Nat.mod_eq_of_lt ha] at e1
 rw [Nat.mod_eq_of_lt hb] at e2
 rw [zm 4096 _ _ 22 heq] at e1
 omega
theorem ret_bool {a b : Bool} (h : a = b) : Ending.returned (.bool a) = .returned (.bool b) := by rw [h]
theorem qe9 (a b : Nat) (ha : a < 4096 ^ 22) (hb : b < 4096 ^ 22) (w : World) :
 Calls Tryz.prog 153 #[.agg (r22 a), .agg (r22 b)] w fun e w' => e = .returned (.bool (decide (a < b))) ∧ Below w.heap.size w w' := by
 have H0 := Lib.hid ha; clear ha
 have H1 := Lib.hid hb; clear hb
 go_enter Tryz.func153, Tryz.ntmps153
 go_wp2_with fail
 go_loopw [5] (fun i wr => ∃ (k : Nat), k ≤ 22 ∧ i = .int .i64 ((k : Int) - 1) ∧ (∀ j, k ≤ j → j < 22 → dg 4096 a j = dg 4096 b j) ∧ Has wr w.heap.size (r22 a) 101 ∧ Has wr (w.heap.size + 1) (r22 b) 101 ∧ Below w.heap.size w wr) (fun i _ => (RowKit.intOf i + 1).toNat)
 case atStart =>
  exact ⟨22, by omega, rfl, fun j h1 h2 => by omega, (Has.new _ _ _).alloc _, Has.new1 _ _ _ _, qb5 _ _ _⟩
 case round =>
  obtain ⟨k, hk, rfl, hh, m0, m1, hB⟩ := hrel
  have M0 := Lib.hid m0; clear m0
  have M1 := Lib.hid m1; clear m1
  have HH := Lib.hid hh; clear hh
  by_cases hlt : 0 < k
  · obtain ⟨k, rfl⟩ : ∃ j, k = j + 1 := ⟨k - 1, by omega⟩
    rw [show (((k + 1 : Nat) : Int) - 1) = (k : Int) by omega]
    have h1 := M0.out.cell k (by omega)
    have h2 := M1.out.cell k (by omega)
    obtain ⟨x, hx⟩ : ∃ x, x = dg 4096 a k := ⟨_, rfl⟩
    obtain ⟨y, hy⟩ : ∃ y, y = dg 4096 b k := ⟨_, rfl⟩
    rw [← hx] at h1
    rw [← hy] at h2
    have Hx := Lib.hid hx; clear hx
    have Hy := Lib.hid hy; clear hy
    have hk' : k < 22 := by omega
    by_cases hxy : x = y
    · have ht : (x != y) = false := by simp [hxy]
      have Hxy := Lib.hid hxy; clear hxy
      go_wp2_with fail
      go_quiet (fail)
      go_wp2_with fail
      go_roundw
      case measure => simp [RowKit.intOf]
      case rel =>
       refine ⟨k, by omega, rfl, ?_, M0.out, M1.out, z7 hB _⟩
       intro j h1 h2
       by_cases e : j = k
       · subst e; rw [← Hx.out, ← Hy.out]; exact Hxy.out
       · exact HH.out j (by omega) h2
    · have ht : (x != y) = true := by simp [hxy]
      have hxy' : dg 4096 a k ≠ dg 4096 b k := by rw [← Hx.out, ← Hy.out]; exact hxy
      have hres := below_end a b k H0.out H1.out hk' (fun j h1 h2 => HH.out j (by omega) h2) hxy'
      rw [← Hx.out, ← Hy.out] at hres
      have HR := Lib.hid hres; clear hres hxy' hxy
      go_wp2_with fail
      go_quiet (fail)
      go_wp2_with fail
      go_quiet (fail)
      go_wp2_with fail
      go_ret
      exact ⟨ret_bool (by have := HR.out; simp only [this]), z7 (z7 hB _) _⟩
  · obtain rfl : k = 0 := by omega
    have hab := below_eq a b H0.out H1.out (fun j hj => HH.out j (by omega) hj)
    have HR := Lib.hid hab; clear hab
    go_wp2_with fail
    go_ret
    exact ⟨ret_bool (by have := HR.out; simp [this]), hB⟩
end
section
open Go.RowKit Go.Lib
theorem Zt (B : Int) (g : Nat → Int) (a b : Nat) : qn B g (a + b) = qn B g a + B ^ a * qn B (fun j => g (j + a)) b := by
 induction b with
 | zero => simp [qn]
 | succ b ih =>
  rw [← Nat.add_assoc]
  simp only [qn]
  rw [ih, Int.mul_add, Int.pow_add, Nat.add_comm b a]
  have : g (a + b) * (B ^ a * B ^ b) = B ^ a * (g (a + b) * B ^ b) := by ac_rfl
  omega
theorem sumf_lin (B c : Int) (f g : Nat → Int) (n : Nat) : qn B (fun j => f j + c * g j) n = qn B f n + c * qn B g n := by
 induction n with
 | zero => simp [qn]
 | succ n ih =>
  simp only [qn]
  rw [ih, Int.mul_add, Int.add_mul, Int.mul_assoc]
  omega
theorem carry_step (D S F x c r q : Int) (h : S + c * D = F) (hr : x + c = r + 4096 * q) : (S + r * D) + q * (D * 4096) = F + x * D := by
 have : x = r + 4096 * q - c := by omega
 subst this; grind
def bnd (k : Nat) : Nat := if k = 0 then 878694100496718043517683302282418331810487718418343092402491322775749527474899974671687634004666183037093927858109549828751614463963730408009475621262727315456 else if k = 1 then 485667223056432267729865476705879726660601709763034880312953102434726071301302124544 else if k = 2 then 29642774844752946028434172162224104410437116074403984394101141506025761456259072 else 29642774844752946028434172162224104410437116074403984394101141506025761187823616
theorem bnd_le (k : Nat) : bnd k ≤ 878694100496718043517683302282418331810487718418343092402491322775749527474899974671687634004666183037093927858109549828751614463963730408009475621262727315456 := by unfold bnd; split <;> (try split) <;> (try split) <;> omega
theorem bnd_3 (k : Nat) (h : 3 ≤ k) : bnd k = 29642774844752946028434172162224104410437116074403984394101141506025761187823616 := by unfold bnd; rw [if_neg (by omega), if_neg (by omega), if_neg (by omega)]
theorem p22 : (4096 : Int) ^ 22 = 29642774844752946028434172162224104410437116074403984394101141506025761187823616 := by decide +kernel
theorem p44 : (4096 : Int) ^ 44 = 878694100496718043517683302282418331810487718418343092402491322775749527474899974671687634004666183037093927858109549828751614463963730408009475621262727315456 := by decide +kernel
theorem fold_num (k L H m m' : Nat) (hm : m = L + 29642774844752946028434172162224104410437116074403984394101141506025761187823616 * H) (hm' : m' = L + 9728 * H) (hL : L < 29642774844752946028434172162224104410437116074403984394101141506025761187823616) (hb : m < bnd k) (hk : k < 5) : m' % PP = m % PP ∧ m' < bnd (k + 1) := by
 have e : 29642774844752946028434172162224104410437116074403984394101141506025761187823616 = 9728 + 512 * PP := by decide +kernel
 constructor
 · rw [hm, hm', e, Nat.add_mul, ← Nat.add_assoc, show 512 * PP * H = PP * (512 * H) by ac_rfl, Nat.add_mul_mod_self_left]
 · clear e
   unfold bnd at hb ⊢
   split at hb
   · split <;> (try split) <;> (try split) <;> omega
   split at hb
   · split <;> (try split) <;> (try split) <;> omega
   split at hb
   · split <;> (try split) <;> (try split) <;> omega
   · split <;> (try split) <;> (try split) <;> omega
structure qev (n k : Nat) (h : Nat → Int) : Prop where
 bd : ∀ i, i < 44 → 0 ≤ h i ∧ h i ≤ 1099511627776
 num : ∃ m : Nat, qn 4096 h 44 = m ∧ m % PP = n % PP ∧ m < bnd k
 norm : 4 ≤ k → ∀ i, i < 22 → h i < 4096
 high : 1 ≤ k → ∀ i, 22 ≤ i → i < 44 → h i = 0
structure Inv2 (n k : Nat) (g : Nat → Int) : Prop where
 bd : ∀ i, i < 44 → 0 ≤ g i ∧ g i < 4096
 num : ∃ m : Nat, qn 4096 g 44 = m ∧ m % PP = n % PP ∧ m < bnd k
theorem inv2_of (n k : Nat) (h g : Nat → Int) (c : Int) (h1 : qev n k h) (hc : 0 ≤ c) (hb : ∀ i, i < 44 → 0 ≤ g i ∧ g i < 4096) (hs : qn 4096 g 44 + c * 4096 ^ 44 = qn 4096 h 44) : Inv2 n k g := by
 obtain ⟨m, hm, hmod, hlt⟩ := h1.num
 refine ⟨hb, m, ?_, hmod, hlt⟩
 have hlt' := bnd_le k
 have h0 := Qf 4096 (by decide) g 44 (fun i hi => (hb i hi).1)
 rw [hm, p44] at hs
 have : c = 0 := by omega
 subst this
 simpa using hs
theorem inv1_of (n k : Nat) (g : Nat → Int) (hk : k < 5) (hg : Inv2 n k g) (h : Nat → Int) (hl : ∀ i, i < 22 → h i = g i + 9728 * g (i + 22)) (hh : ∀ i, 22 ≤ i → i < 44 → h i = 0) : qev n (k + 1) h := by
 obtain ⟨m, hm, hmod, hlt⟩ := hg.num
 have hsp := Zt 4096 g 22 22
 have hL0 := Qf 4096 (by decide) g 22 (fun i hi => (hg.bd i (by omega)).1)
 have hL1 := qaj 4096 (by decide) g 22 (fun i hi => (hg.bd i (by omega)).2)
 have hH0 := Qf 4096 (by decide) (fun j => g (j + 22)) 22 (fun i hi => (hg.bd (i + 22) (by omega)).1)
 have hsum : qn 4096 h 44 = qn 4096 g 22 + 9728 * qn 4096 (fun j => g (j + 22)) 22 := by
  rw [show (44 : Nat) = 22 + 22 from rfl, Zt, zr 4096 (fun j => h (j + 22)) 22 (fun i hi => hh (i + 22) (by omega) (by omega)), zm 4096 h (fun j => g j + 9728 * g (j + 22)) 22 hl,
   sumf_lin 4096 9728 g (fun j => g (j + 22)) 22]
  omega
 obtain ⟨L, eL⟩ := Int.eq_ofNat_of_zero_le hL0
 obtain ⟨H, eH⟩ := Int.eq_ofNat_of_zero_le hH0
 rw [show (22 + 22 : Nat) = 44 from rfl, hm, eL, eH] at hsp
 rw [eL, eH] at hsum
 rw [eL] at hL1
 rw [p22] at hsp hL1
 have key := fold_num k L H m (L + 9728 * H) (by omega) rfl (by omega) hlt hk
 refine ⟨?_, ⟨L + 9728 * H, by rw [hsum]; omega, key.1.trans hmod, key.2⟩, ?_, fun _ => hh⟩
 · intro i hi
   by_cases h22 : i < 22
   · rw [hl i h22]
     have a1 := hg.bd i (by omega)
     have a2 := hg.bd (i + 22) (by omega)
     omega
   · rw [hh i (by omega) hi]; omega
 · intro hk4 i hi
   -- the number is below 2 ^ 264: nothing is above
   rw [bnd_3 k (by omega)] at hlt
   have hH : H = 0 := by omega
   have hz : g (i + 22) = 0 := by
    have hu := zL 4096 (fun j => g (j + 22)) 0 22 (fun i hi => hg.bd (i + 22) (by omega)) (by show qn 4096 _ 22 = _; rw [eH, hH]) i hi
    rw [hu, dg, Nat.zero_div, Nat.zero_mod]
    rfl
   rw [hl i hi, hz]
   have := (hg.bd i (by omega)).2
   omega
def bnd4 (k : Nat) : Nat := if k = 0 then 29642774844752946028434172162224104410437116074403984394101141506025761187823616 else if k = 1 then 57896044618658097711785492504343953926634992332820282019728792003956564829696 else 57896044618658097711785492504343953926634992332820282019728792003956564819968
theorem p21 : (4096 : Int) ^ 21 = 7237005577332262213973186563042994240829374041602535252466099000494570602496 := by decide +kernel
structure Inv4 (n k : Nat) (h : Nat → Int) : Prop where
 bd : ∀ i, i < 22 → 0 ≤ h i ∧ h i < 4096
 num : ∃ m : Nat, qn 4096 h 22 = m ∧ m % PP = n % PP ∧ m < bnd4 k
theorem inv4_of (n : Nat) (h : Nat → Int) (h1 : qev n 5 h) : Inv4 n 0 h := by
 obtain ⟨m, hm, hmod, hlt⟩ := h1.num
 refine ⟨fun i hi => ⟨(h1.bd i (by omega)).1, h1.norm (by omega) i hi⟩, m, ?_, hmod, by rw [bnd_3 _ (by omega)] at hlt; exact hlt⟩
 rw [show (44 : Nat) = 22 + 22 from rfl, Zt, zr 4096 (fun j => h (j + 22)) 22 (fun i hi => h1.high (by omega) (i + 22) (by omega) (by omega))] at hm
 simpa using hm
def mid (h : Nat → Int) : Nat → Int := upd (upd h 21 (h 21 % 8)) 0 (h 0 + 19 * (h 21 / 8))
theorem mid_sum (h : Nat → Int) : qn 4096 (mid h) 22 = qn 4096 h 22 - (h 21 / 8) * (PP : Int) := by
 have e : (PP : Int) = 8 * 7237005577332262213973186563042994240829374041602535252466099000494570602496 - 19 := by decide +kernel
 unfold mid
 rw [Qt _ _ _ _ _ (by omega), qs _ _ _ _ (by omega), Qt _ _ _ _ _ (by omega), p21, e]
 omega
theorem mid_bd (h : Nat → Int) (hb : ∀ i, i < 22 → 0 ≤ h i ∧ h i < 4096) : ∀ i, i < 22 → 0 ≤ mid h i ∧ mid h i ≤ 16384 := by
 intro i hi
 have h21 := hb 21 (by omega)
 have h0 := hb 0 (by omega)
 unfold mid
 by_cases e0 : i = 0
 · subst e0; rw [qu]; omega
 · rw [qs _ _ _ _ e0]
   by_cases e1 : i = 21
   · subst e1; rw [qu]; omega
   · rw [qs _ _ _ _ e1]; have := hb i hi; omega
theorem pass_sum (h : Nat → Int) (i : Nat) (hi : i < 21) : qn 4096 (upd (upd h (i + 1) (h (i + 1) + h i / 4096)) i (h i % 4096)) 22 = qn 4096 h 22 := by
 rw [Qt _ _ _ _ _ (by omega), qs _ _ _ _ (by omega), Qt _ _ _ _ _ (by omega), Int.pow_succ]
 have e : h i % 4096 = h i - 4096 * (h i / 4096) := by omega
 rw [e]
 generalize h i / 4096 = q
 generalize (4096 : Int) ^ i = D
 generalize h i = x
 generalize h (i + 1) = y
 grind
theorem s4a (m q : Nat) (G x : Int) (hG : 0 ≤ G) (h : G + x * 7237005577332262213973186563042994240829374041602535252466099000494570602496 = m - q * 57896044618658097711785492504343953926634992332820282019728792003956564819949) (hm : m < 29642774844752946028434172162224104410437116074403984394101141506025761187823616) : x < 4096 := by omega
theorem s4b (m q : Nat) (A r : Int) (hA : 0 ≤ A) (hr : 0 ≤ r) (h : A + (8 * q + r) * 7237005577332262213973186563042994240829374041602535252466099000494570602496 = m) : q * 57896044618658097711785492504343953926634992332820282019728792003956564819949 ≤ m := by omega
theorem s4c (m q : Nat) (A r : Int) (hA : 0 ≤ A) (hA' : A < 7237005577332262213973186563042994240829374041602535252466099000494570602496) (hr : 0 ≤ r) (hr' : r < 8) (h : A + (8 * q + r) * 7237005577332262213973186563042994240829374041602535252466099000494570602496 = m) (hm : m < 29642774844752946028434172162224104410437116074403984394101141506025761187823616) : m - q * 57896044618658097711785492504343953926634992332820282019728792003956564819949 < 57896044618658097711785492504343953926634992332820282019728792003956564829696 := by omega
theorem s4d (m q : Nat) (A r : Int) (hA : 0 ≤ A) (hA' : A < 7237005577332262213973186563042994240829374041602535252466099000494570602496) (hr : 0 ≤ r) (hr' : r < 8) (h : A + (8 * q + r) * 7237005577332262213973186563042994240829374041602535252466099000494570602496 = m) (hm : m < 57896044618658097711785492504343953926634992332820282019728792003956564829696) : m - q * 57896044618658097711785492504343953926634992332820282019728792003956564819949 < 57896044618658097711785492504343953926634992332820282019728792003956564819968 := by omega
theorem s4e (m q : Nat) (h : q * 57896044618658097711785492504343953926634992332820282019728792003956564819949 ≤ m) : ((m - q * 57896044618658097711785492504343953926634992332820282019728792003956564819949 : Nat) : Int) = m - q * 57896044618658097711785492504343953926634992332820282019728792003956564819949 := by omega
theorem s4f (m q : Nat) (h : q * 57896044618658097711785492504343953926634992332820282019728792003956564819949 ≤ m) : m = (m - q * 57896044618658097711785492504343953926634992332820282019728792003956564819949) + 57896044618658097711785492504343953926634992332820282019728792003956564819949 * q := by omega
theorem inv4_step (n k : Nat) (h g : Nat → Int) (hk : k < 2) (h1 : Inv4 n k h) (hb : ∀ i, i < 21 → 0 ≤ g i ∧ g i < 4096) (h21 : 0 ≤ g 21) (hs : qn 4096 g 22 = qn 4096 (mid h) 22) : Inv4 n (k + 1) g := by
 obtain ⟨m, hm, hmod, hlt⟩ := h1.num
 have hb21 := h1.bd 21 (by omega)
 have hlow := qaj 4096 (by decide) h 21 (fun i hi => (h1.bd i (by omega)).2)
 have hlow0 := Qf 4096 (by decide) h 21 (fun i hi => (h1.bd i (by omega)).1)
 have hg0 := Qf 4096 (by decide) g 21 (fun i hi => (hb i hi).1)
 rw [mid_sum, hm] at hs
 have e : (PP : Int) = 57896044618658097711785492504343953926634992332820282019728792003956564819949 := by decide +kernel
 have e' : PP = 57896044618658097711785492504343953926634992332820282019728792003956564819949 := rfl
 have hm' : qn 4096 h 21 + h 21 * 4096 ^ 21 = m := hm
 have hs' : qn 4096 g 21 + g 21 * 4096 ^ 21 = m - h 21 / 8 * (PP : Int) := hs
 obtain ⟨q, hq⟩ := Int.eq_ofNat_of_zero_le (show 0 ≤ h 21 / 8 by omega)
 have hdec : h 21 = 8 * q + h 21 % 8 := by omega
 have hr : 0 ≤ h 21 % 8 := by omega
 have hr' : h 21 % 8 < 8 := by omega
 generalize h 21 % 8 = r at *
 rw [p21] at hm' hs' hlow
 rw [hdec] at hm'
 rw [hq, e] at hs' hs
 have hle := s4b m q _ r hlow0 hr hm'
 refine ⟨?_, m - q * 57896044618658097711785492504343953926634992332820282019728792003956564819949, ?_, ?_, ?_⟩
 · intro i hi
   by_cases e1 : i = 21
   · subst e1
     refine ⟨h21, s4a m q _ _ hg0 hs' ?_⟩
     unfold bnd4 at hlt
     split at hlt
     · exact hlt
     · split at hlt <;> omega
   · exact hb i (by omega)
 · rw [hs, s4e m q hle]
 · have := s4f m q hle
   rw [← hmod]
   conv => rhs; rw [this, ← e']
   rw [Nat.add_mul_mod_self_left, e']
 · unfold bnd4 at hlt ⊢
   rcases (show k = 0 ∨ k = 1 by omega) with rfl | rfl
   · simp only [if_true, Nat.zero_add, Nat.one_ne_zero, if_false] at hlt ⊢
     exact s4c m q _ r hlow0 hlow hr hr' hm' hlt
   · simp only [if_true, Nat.one_ne_zero, if_false] at hlt ⊢
     rw [if_neg (by omega), if_neg (by omega)]
     exact s4d m q _ r hlow0 hlow hr hr' hm' hlt
theorem inv4_end (n : Nat) (h : Nat → Int) (h1 : Inv4 n 2 h) : ∃ m : Nat, row .i64 22 h = r22 m ∧ m % PP = n % PP ∧ m < 57896044618658097711785492504343953926634992332820282019728792003956564819968 := by
 obtain ⟨m, hm, hmod, hlt⟩ := h1.num
 exact ⟨m, Qb _ _ _ _ (zL 4096 h m 22 h1.bd hm), hmod, hlt⟩
end
end Go.Proofs.YtbgefoamhdgnaaaGreatDoor
namespace Go
section
variable {P : Program} {md : Region.Mode} {ops : Array Oper} {Q : Exit → Act → World → Prop} {f : Nat} {S : World → Prop}
def qaC (P : Program) (md : Region.Mode) (ops : Array Oper) (Q : Exit → Act → World → Prop) (f : Nat) (S : World → Prop) : Nat → Array Bool → Act → World → Prop
 | 0, listed, a, w => Region.ready md ops listed = [] ∧ Q .normal a w
 | n + 1, listed, a, w => (Region.ready md ops listed = [] → Q .normal a w) ∧
  ∀ j ∈ Region.ready md ops listed, wpOp P ops Q j (fun a' w' => (j ≠ f → S w') ∧ qaC P md ops Q f S n (listed.setIfInBounds j true) a' w') a w
theorem wpAny_of_but (n : Nat) : ∀ (listed : Array Bool) (a : Act) (w : World), qaC P md ops Q f S n listed a w → wpAny P md ops Q n listed a w := by
 induction n with
 | zero => intro _ _ _ h; exact h
 | succ n ih => intro listed a w h; exact ⟨h.1, fun j hj => wpOp_mono (fun a' w' h' => ih _ a' w' h'.2) (h.2 j hj)⟩
theorem wpBut_gen {i : Nat} {oi : Oper} {v : Value} (hi : ops[i]? = some oi) (hsel : ∀ (j : Nat) (o : Oper) cs b, ops[j]? = some o → o.op ≠ .select cs b)
 (hif : i ≠ f) (hf : ∀ o, ops[f]? = some o → ∃ e ∈ o.after, Region.binds md e = true ∧ e.on = i) (hQ : ∀ c a w, Q (.panic c) (a.put oi.dst v) w → Q (.panic c) a w) (n : Nat) :
 ∀ (listed : Array Bool) (a : Act) (w : World),
  (∀ j oj, ops[j]? = some oj → j ≠ i → listed.getD j true = false → (∀ e ∈ oj.after, Region.binds md e = true → e.on ≠ i) → oi.apart ops oj = true) →
  i ∈ Region.ready md ops listed → YieldsIf P ops S oi v a → S w →
  qaC P md ops Q f S n (listed.setIfInBounds i true) (a.put oi.dst v) w → qaC P md ops Q f S (n + 1) listed a w := by
 induction n with
 | zero =>
  intro listed a w _ hr hy hS H
  refine ⟨fun h => (by rw [h] at hr; cases hr), fun j hj => ?_⟩
  by_cases hji : j = i
  · subst hji; exact hy.wpOp hi hS ⟨fun _ => hS, H⟩
  · have h0 := ready_mono hj hji
    rw [H.1] at h0
    cases h0
 | succ n ih =>
  intro listed a w hfree hr hy hS H
  refine ⟨fun h => (by rw [h] at hr; cases hr), fun j hj => ?_⟩
  by_cases hji : j = i
  · subst hji; exact hy.wpOp hi hS ⟨fun _ => hS, H⟩
  have hiun := (mem_ready.1 hr).1
  obtain ⟨hjun, oj, hoj, hall⟩ := mem_ready.1 hj
  -- j does not wait for i, which has not come up: so j is not f
  have hnot : ∀ e ∈ oj.after, Region.binds md e = true → e.on ≠ i := by
   intro e he hb heq
   have h1 := hall e he hb
   rw [heq] at h1
   by_cases hlt : i < listed.size
   · simp [hlt] at hiun h1; rw [hiun] at h1; cases h1
   · simp [Array.getElem?_eq_none (Nat.le_of_not_lt hlt)] at h1
  have hjf : j ≠ f := by
   rintro rfl
   obtain ⟨e, he, hb, hon⟩ := hf oj hoj
   exact hnot e he hb hon
  have hstep := wpOp_putIf hoj (hfree j oj hoj hji hjun hnot) (fun cs b => hsel i oi cs b hi) (fun cs b => hsel j oj cs b hoj) hQ hy (H.2 j (ready_mono hj hji))
  refine wpOp_mono (fun a' w' hk => ?_) hstep
  have hSw := hk.2.1 hjf
  refine ⟨fun _ => hSw, ih (listed.setIfInBounds j true) a' w' ?_ (ready_mono hr (Ne.symm hji)) hk.1 hSw ?_⟩
  · intro k ok hok hki hun hno
    refine hfree k ok hok hki ?_ hno
    by_cases hjk : j = k
    · subst hjk; exact hjun
    · rw [getD_set_ne true hjk] at hun; exact hun
  · rw [Array.setIfInBounds_comm _ _ hji]; exact hk.2.2
def waitsFor (md : Region.Mode) (ops : Array Oper) (f i : Nat) : Bool := match ops[f]? with
 | some o => o.after.any fun e => Region.binds md e && e.on == i
 | none => true
theorem Zo {i : Nat} {oi : Oper} {v : Value} {n : Nat} {listed : Array Bool} {a : Act} {w : World} (hi : ops[i]? = some oi) (hs : Region.noSelect ops = true) (hfr : Region.free md ops listed i = true)
 (hr : (Region.ready md ops listed).contains i = true) (hif : (i == f) = false) (hf : waitsFor md ops f i = true) (hQ : ∀ c a w, Q (.panic c) (a.put oi.dst v) w → Q (.panic c) a w) (hy : YieldsIf P ops S oi v a) (hS : S w)
 (h : qaC P md ops Q f S n (listed.setIfInBounds i true) (a.put oi.dst v) w) : qaC P md ops Q f S (n + 1) listed a w := by
 refine wpBut_gen hi (Region.noSelect_spec hs) (by simpa using hif) (fun o ho => ?_) hQ n listed a w (Region.free_spec hi hfr) (by simpa using hr) hy hS h
 unfold waitsFor at hf
 rw [ho] at hf
 simp only [Array.any_eq_true'] at hf
 obtain ⟨e, he, hb⟩ := hf
 simp only [Bool.and_eq_true, beq_iff_eq] at hb
 exact ⟨e, he, hb.1, hb.2⟩
theorem Qr {oi : Oper} {a : Act} (hw : Region.wanted oi (yielded ops a.tmps) = true) (ty : TypeId) (x : Operand) (ho : oi.op = .load ty x) (g : Nat) (hx : a.eval x = .pointer (some ⟨g, 0, none⟩)) (t : TypeId) (cs : Array Value)
 {d : TypeDesc} (hS : ∀ w, S w → w.heap[g]? = some (.cells cs t (0, 0))) (hu : P.underlying ty = some d) (hd : (match d with | .struct _ | .array _ _ => true | _ => false) = true) (hi : (P.info? ty).map (·.size) = some cs.size) :
 YieldsIf P ops S oi (.agg cs) a := by
 refine Or.inl ⟨hw, fun w h => ?_⟩
 unfold execOp
 simp only [ho, hx, Instr.loadAt, Instr.sureAddr, Sem.run_bind, Sem.run_pure, Result.andThen_ok, run_loadVar_row w g t ty cs (0, 0) d (hS w h) hu hd hi]
theorem Ql {i : Nat} {oi : Oper} {n : Nat} {listed : Array Bool} {a : Act} {w : World} (hr : Region.ready md ops listed = [i]) (hi : ops[i]? = some oi)
 (h : ∀ K : Act → World → Prop, Shut (∀ a' w', (i ≠ f → S w') → qaC P md ops Q f S n (listed.setIfInBounds i true) a' w' → K a' w') → if Region.wanted oi (yielded ops a.tmps) = true then Oper.wp P oi a w K Q else K (a.put oi.dst undef) w) :
 qaC P md ops Q f S (n + 1) listed a w := by
 refine ⟨fun h0 => (by rw [hr] at h0; cases h0), fun j hj => ?_⟩
 rw [hr] at hj
 obtain rfl : j = i := by simpa using hj
 exact wpOp_step hi fun K hK => h K fun a' w' hS hW => hK a' w' ⟨hS, hW⟩
theorem qbh {n : Nat} {listed : Array Bool} {a : Act} {w : World} (hr : Region.ready md ops listed = []) (h : Q .normal a w) : qaC P md ops Q f S n listed a w := by
 cases n with
 | zero => exact ⟨hr, h⟩
 | succ n => exact ⟨fun _ => h, by rw [hr]; simp⟩
theorem qbd {id : Nat} {a : Act} {w : World} (f : Nat) (S : World → Prop) (hm : P.follows .mixedOrders = true)
 (h : qaC P .any ops Q f S ops.size (Array.replicate ops.size false) a w.drew) : (Code.region id ops true).wp P Q a w :=
 wp_region_any hm (wpAny_of_but _ _ _ _ h)
theorem qaz {id : Nat} {a : Act} {w : World} (f : Nat) (hm : P.follows .mixedOrders = true)
 (h : ∀ W0 : World, W0 = w → qaC P .any ops Q f (fun w' => Go.RowKit.Below W0.heap.size W0 w') ops.size (Array.replicate ops.size false) a W0.drew) : (Code.region id ops true).wp P Q a w :=
 qbd f _ hm (h w rfl)
end
end Go
namespace Go.Proofs.YtbgefoamhdgnaaaGreatDoor
section
open Go.RowKit Go.Lib
theorem qw : 0 < PP := by decide +kernel
theorem lt_p22 (n : Nat) (h : n < 57896044618658097711785492504343953926634992332820282019728792003956564819968) : n < 4096 ^ 22 := Nat.lt_trans h (by decide +kernel)
theorem qa5 (n : Nat) (f : Nat → Int) (hf : qev n 0 f) (w : World) :
 Calls Tryz.prog 114 #[.agg (row .i64 44 f)] w fun e w' => e = .returned (.agg (r22 (n % PP))) ∧ Below w.heap.size w w' := by
 have HF := Lib.hid hf; clear hf
 go_enter Tryz.func114, Tryz.ntmps114
 go_wp2_with fail
 go_loopw [3] (fun i wr => ∃ (k : Nat) (h : Nat → Int), k ≤ 5 ∧ i = .int .i64 k ∧ qev n k h ∧ Has wr w.heap.size (row .i64 44 h) 176 ∧ HasN wr (w.heap.size + 1) 22 101 ∧ Below w.heap.size w wr) (fun i _ => 5 - (RowKit.intOf i).toNat)
 case atStart => exact ⟨0, f, by omega, rfl, HF.out, (Has.new _ _ _).alloc _, HasN.new1 _ _ _ _ 22 rfl, qb5 _ _ _⟩
 case round =>
  obtain ⟨k, h, hk, rfl, hI, m0, m1, hB⟩ := hrel
  have M0 := Lib.hid m0; clear m0
  have M1 := Lib.hid m1; clear m1
  have HI := Lib.hid hI; clear hI
  by_cases hlt : k < 5
  · -- the pass of the carry
    go_wp2_with fail
    obtain ⟨w1, rfl⟩ : ∃ w1 : World, w1 = wr := ⟨_, rfl⟩
    go_loopw [4, 5] (fun c i wr => ∃ (j : Nat) (g : Nat → Int) (cv : Int), j ≤ 44 ∧ i = .int .i64 j ∧ c = .int .i64 cv ∧ 0 ≤ cv ∧ cv ≤ 1073741824 ∧ (∀ l, j ≤ l → g l = h l) ∧ (∀ l, l < j → 0 ≤ g l ∧ g l < 4096) ∧ qn 4096 g j + cv * 4096 ^ j = qn 4096 h j ∧ Has wr w.heap.size (row .i64 44 g) 176 ∧ HasN wr (w.heap.size + 1) 22 101 ∧ Below w.heap.size w wr) (fun _ i _ => 44 - (RowKit.intOf i).toNat)
    case atStart => exact ⟨0, h, 0, by omega, rfl, rfl, by omega, by omega, fun _ _ => rfl, fun l hl => by omega, by simp [qn], M0.out, M1.out, hB⟩
    case round =>
     obtain ⟨j, g, cv, hj, rfl, rfl, hc0, hc1, hg, hd, hs, m0, m1, hB'⟩ := hrel
     have N0 := Lib.hid m0; clear m0
     have N1 := Lib.hid m1; clear m1
     have HG := Lib.hid hg; clear hg
     have HD := Lib.hid hd; clear hd
     have HS := Lib.hid hs; clear hs
     by_cases hjl : j < 44
     · have h1 := N0.out.cell j hjl
       have hfz := N0.out.frozen j
       have hx1 := HI.out.bd j hjl
       rw [← HG.out j (Nat.le_refl _)] at hx1
       obtain ⟨x, hx⟩ : ∃ x, x = g j := ⟨_, rfl⟩
       rw [← hx] at h1 hx1
       have Hx := Lib.hid hx; clear hx
       obtain ⟨hx0, hx1⟩ := hx1
       go_wp2_with fail
       go_roundw
       case measure => simp [RowKit.intOf]; omega
       case rel =>
        refine ⟨j + 1, upd g j ((x + cv) % 4096), (x + cv) / 4096, by omega, by go_num, rfl, by omega, by omega, ?_, ?_, ?_, N0.out.set _ _, N1.out.other _ _ (by simp), hB'.setCell (by simp) _⟩
        · intro l hl; rw [qs _ _ _ _ (by omega)]; exact HG.out l (by omega)
        · intro l hl
          by_cases e : l = j
          · subst e; rw [qu]; omega
          · rw [qs _ _ _ _ e]; exact HD.out l (by omega)
        · simp only [qn]
          rw [QB _ _ _ _ _ (Nat.le_refl _), qu, ← HG.out j (Nat.le_refl _), ← Hx.out, Int.pow_succ]
          exact carry_step _ _ _ _ _ _ _ HS.out (by omega)
     · obtain rfl : j = 44 := by omega
       have hI2 := inv2_of n k h g cv HI.out hc0 HD.out HS.out
       have HI2 := Lib.hid hI2; clear hI2
       clear HD HS HG hjl hj M0 M1 HI hB
       -- the fold
       go_wp2_with fail
       obtain ⟨w2, rfl⟩ : ∃ w2 : World, w2 = wr := ⟨_, rfl⟩
       go_loopw [7] (fun i wr => ∃ (j : Nat) (u : Nat → Int), j ≤ 22 ∧ i = .int .i64 j ∧ (∀ l, l < j → u l = g l + 9728 * g (l + 22) ∧ u (l + 22) = 0) ∧ (∀ l, j ≤ l → l < 22 → u l = g l ∧ u (l + 22) = g (l + 22)) ∧ Has wr w.heap.size (row .i64 44 u) 176 ∧ HasN wr (w.heap.size + 1) 22 101 ∧ Below w.heap.size w wr) (fun i _ => 22 - (RowKit.intOf i).toNat)
       case atStart => exact ⟨0, g, by omega, rfl, fun l hl => by omega, fun _ _ _ => ⟨rfl, rfl⟩, N0.out, N1.out, hB'⟩
       case round =>
        obtain ⟨j, u, hj, rfl, hu1, hu2, m0, m1, hB⟩ := hrel
        have O0 := Lib.hid m0; clear m0
        have O1 := Lib.hid m1; clear m1
        have HU1 := Lib.hid hu1; clear hu1
        have HU2 := Lib.hid hu2; clear hu2
        by_cases hjl : j < 22
        · have h1 := O0.out.cell j (by omega)
          have h2 := O0.out.cell (j + 22) (by omega)
          have hf1 := O0.out.frozen j
          have hf2 := O0.out.frozen (j + 22)
          have hy1 := HI2.out.bd j (by omega)
          have hz1 := HI2.out.bd (j + 22) (by omega)
          rw [← (HU2.out j (Nat.le_refl _) hjl).1] at hy1
          rw [← (HU2.out j (Nat.le_refl _) hjl).2] at hz1
          obtain ⟨y, hy⟩ : ∃ y, y = u j := ⟨_, rfl⟩
          obtain ⟨z, hz⟩ : ∃ z, z = u (j + 22) := ⟨_, rfl⟩
          rw [← hy] at h1 hy1
          rw [← hz] at h2 hz1
          have Hy := Lib.hid hy; clear hy
          have Hz := Lib.hid hz; clear hz
          obtain ⟨hy0, hy1⟩ := hy1
          obtain ⟨hz0, hz1⟩ := hz1
          have hne : (j = j + 22) = False := by simp
          go_wp2_with fail
          go_region
          go_wp2_with fail
          go_roundw
          case measure => simp [RowKit.intOf]; omega
          case rel =>
           refine ⟨j + 1, upd (upd u j (y + 9728 * z)) (j + 22) 0, by omega, by go_num, ?_, ?_, (O0.out.set _ _).set _ _, (O1.out.other _ _ (by simp)).other _ _ (by simp), ((hB.setCell (Nat.le_refl _) _).setCell (Nat.le_refl _) _).drew⟩
           · intro l hl
             by_cases e : l = j
             · subst e
               rw [qs _ _ _ _ (by omega), qu, qu, Hy.out, Hz.out, (HU2.out l (Nat.le_refl _) hjl).1, (HU2.out l (Nat.le_refl _) hjl).2]
               exact ⟨rfl, rfl⟩
             · rw [qs _ _ _ _ (by omega), qs _ _ _ _ e, qs _ _ _ _ (by omega), qs _ _ _ _ (by omega)]
               exact HU1.out l (by omega)
           · intro l hl hl'
             rw [qs _ _ _ _ (by omega), qs _ _ _ _ (by omega), qs _ _ _ _ (by omega), qs _ _ _ _ (by omega)]
             exact HU2.out l (by omega) hl'
        · obtain rfl : j = 22 := by omega
          have hI1 := inv1_of n k g hlt HI2.out u (fun i hi => (HU1.out i hi).1) (fun i hi hi' => by
           have := (HU1.out (i - 22) (by omega)).2
           rwa [show i - 22 + 22 = i by omega] at this)
          have HI1 := Lib.hid hI1; clear hI1
          clear HU1 HU2 hjl hj N0 N1 HI2 hB'
          go_wp2_with fail
          go_roundw
          case measure => simp [RowKit.intOf]; omega
          case rel => exact ⟨k + 1, u, by omega, by go_num, HI1.out, O0.out, O1.out, hB⟩
  · obtain rfl : k = 5 := by omega
    have HI4 := Lib.hid (inv4_of n h HI.out)
    clear HI hlt hk HF
    go_wp2_with fail
    obtain ⟨w1, rfl⟩ : ∃ w1 : World, w1 = wr := ⟨_, rfl⟩
    -- what is beyond 255 bits
    go_loopw [8] (fun i wr => ∃ (k : Nat) (h : Nat → Int), k ≤ 2 ∧ i = .int .i64 k ∧ Inv4 n k h ∧ Has wr w.heap.size (row .i64 44 h) 176 ∧ HasN wr (w.heap.size + 1) 22 101 ∧ Below w.heap.size w wr) (fun i _ => 2 - (RowKit.intOf i).toNat)
    case atStart => exact ⟨0, h, by omega, rfl, HI4.out, M0.out, M1.out, hB⟩
    case round =>
     clear M0 M1 HI4 hB
     obtain ⟨k, h, hk, rfl, hI, m0, m1, hB⟩ := hrel
     have M0 := Lib.hid m0; clear m0
     have M1 := Lib.hid m1; clear m1
     have HI := Lib.hid hI; clear hI
     by_cases hlt : k < 2
     · have h1 := M0.out.cell 0 (by omega)
       have h2 := M0.out.cell 21 (by omega)
       have hf1 := M0.out.frozen 0
       have hf2 := M0.out.frozen 21
       have hy1 := HI.out.bd 0 (by omega)
       have hz1 := HI.out.bd 21 (by omega)
       obtain ⟨y, hy⟩ : ∃ y, y = h 0 := ⟨_, rfl⟩
       obtain ⟨z, hz⟩ : ∃ z, z = h 21 := ⟨_, rfl⟩
       rw [← hy] at h1 hy1
       rw [← hz] at h2 hz1
       have hm : mid h = upd (upd h 21 (z % 8)) 0 (y + 19 * (z / 8)) := by rw [hy, hz]; rfl
       have m2 := (M0.out.set 21 (z % 8)).set 0 (y + 19 * (z / 8))
       rw [← hm] at m2
       have M2 := Lib.hid m2; clear m2
       have hM1 := (M1.out.other ⟨w.heap.size, 21, none⟩ (.int .i64 (z % 8)) (by simp)).other ⟨w.heap.size, 0, none⟩ (.int .i64 (y + 19 * (z / 8))) (by simp)
       have M3 := Lib.hid hM1; clear hM1
       have hB2 := (hB.setCell (p := ⟨w.heap.size, 21, none⟩) (by simp) (.int .i64 (z % 8))).setCell (p := ⟨w.heap.size, 0, none⟩) (by simp) (.int .i64 (y + 19 * (z / 8)))
       have HB2 := Lib.hid hB2; clear hB2
       have Hy := Lib.hid hy; clear hy
       have Hz := Lib.hid hz; clear hz
       have Hm := Lib.hid hm; clear hm
       obtain ⟨hy0, hy1⟩ := hy1
       obtain ⟨hz0, hz1⟩ := hz1
       go_wp2_with fail
       go_loopw [10] (fun i wr => ∃ (j : Nat) (g : Nat → Int), j ≤ 21 ∧ i = .int .i64 j ∧ (∀ l, l < j → 0 ≤ g l ∧ g l < 4096) ∧ (∀ l, j < l → l < 22 → g l = mid h l) ∧ 0 ≤ g j ∧ g j ≤ 1048576 ∧ qn 4096 g 22 = qn 4096 (mid h) 22 ∧ Has wr w.heap.size (row .i64 44 g) 176 ∧ HasN wr (w.heap.size + 1) 22 101 ∧ Below w.heap.size w wr) (fun i _ => 21 - (RowKit.intOf i).toNat)
       case atStart =>
        have hb := mid_bd h HI.out.bd 0 (by omega)
        exact ⟨0, mid h, by omega, rfl, fun l hl => by omega, fun _ _ _ => rfl, hb.1, by omega, rfl, M2.out, M3.out, HB2.out⟩
       case round =>
        obtain ⟨j, g, hj, rfl, hg1, hg2, hg3, hg4, hs, m0, m1, hB'⟩ := hrel
        clear M2 M3 h1 h2 hf1 hf2
        have N0 := Lib.hid m0; clear m0
        have N1 := Lib.hid m1; clear m1
        have HG1 := Lib.hid hg1; clear hg1
        have HG2 := Lib.hid hg2; clear hg2
        have HS := Lib.hid hs; clear hs
        by_cases hjl : j < 21
        · have h1 := N0.out.cell j (by omega)
          have h2 := N0.out.cell (j + 1) (by omega)
          have hf1 := N0.out.frozen j
          have hf2 := N0.out.frozen (j + 1)
          have hv1 := mid_bd h HI.out.bd (j + 1) (by omega)
          rw [← HG2.out (j + 1) (by omega) (by omega)] at hv1
          obtain ⟨u, hu⟩ : ∃ u, u = g j := ⟨_, rfl⟩
          obtain ⟨v, hv⟩ : ∃ v, v = g (j + 1) := ⟨_, rfl⟩
          rw [← hu] at h1 hg3 hg4
          rw [← hv] at h2 hv1
          have Hu := Lib.hid hu; clear hu
          have Hv := Lib.hid hv; clear hv
          obtain ⟨hv0, hv1⟩ := hv1
          have hne : (j + 1 = j) = False := by simp
          go_wp2_with fail
          go_region
          go_wp2_with fail
          go_roundw
          case measure => simp [RowKit.intOf]; omega
          case rel =>
           refine ⟨j + 1, upd (upd g (j + 1) (v + u / 4096)) j (u % 4096), by omega, by go_num, ?_, ?_, ?_, ?_, ?_, (N0.out.set _ _).set _ _, (N1.out.other _ _ (by simp)).other _ _ (by simp), ((hB'.setCell (Nat.le_refl _) _).setCell (Nat.le_refl _) _).drew⟩
           · intro l hl
             by_cases e : l = j
             · subst e; rw [qu]; omega
             · rw [qs _ _ _ _ e, qs _ _ _ _ (by omega)]; exact HG1.out l (by omega)
           · intro l hl hl'
             rw [qs _ _ _ _ (by omega), qs _ _ _ _ (by omega)]; exact HG2.out l (by omega) hl'
           · rw [qs _ _ _ _ (by omega), qu]; omega
           · rw [qs _ _ _ _ (by omega), qu]; omega
           · rw [Hu.out, Hv.out, pass_sum g j hjl]; exact HS.out
        · obtain rfl : j = 21 := by omega
          have hI1 := inv4_step n k h g hlt HI.out HG1.out hg3 HS.out
          have HI1 := Lib.hid hI1; clear hI1
          clear HG1 HG2 HS hjl hj hg3 hg4
          go_wp2_with fail
          go_roundw
          case measure => simp [RowKit.intOf]; omega
          case rel => exact ⟨k + 1, g, by omega, by go_num, HI1.out, N0.out, N1.out, hB'⟩
     · obtain rfl : k = 2 := by omega
       have HI4 := Lib.hid (inv4_end n h HI.out)
       clear HI hlt hk
       go_wp2_with fail
       have hlt1 := M1.out.lt
       have hne : ¬ wr.heap.size = w.heap.size := by omega
       have hne' : ¬ w.heap.size = wr.heap.size := by omega
       have N0 := Lib.hid (M0.out.alloc (.cells (row .i64 22 fun _ => 0) 101))
       have N1 := Lib.hid (M1.out.alloc (.cells (row .i64 22 fun _ => 0) 101))
       have N2 := Lib.hid (Has.new wr (row .i64 22 fun _ => 0) 101)
       have HB := Lib.hid (hB.alloc (by omega) (.cells (row .i64 22 fun _ => 0) 101))
       clear M0 M1 hB
       obtain ⟨w3, rfl⟩ : ∃ w3 : World, w3 = wr := ⟨_, rfl⟩
       go_loopw [12] (fun i wx => ∃ (j : Nat) (g : Nat → Int), j ≤ 22 ∧ i = .int .i64 j ∧ (∀ l, l < j → g l = h l) ∧ Has wx w.heap.size (row .i64 44 h) 176 ∧ HasN wx (w.heap.size + 1) 22 101 ∧ Has wx w3.heap.size (row .i64 22 g) 101 ∧ Below w.heap.size w wx) (fun i _ => 22 - (RowKit.intOf i).toNat)
       case atStart => exact ⟨0, fun _ => 0, by omega, rfl, fun l hl => by omega, N0.out, N1.out, N2.out, HB.out⟩
       case round =>
        clear N0 N1 N2 HB
        obtain ⟨j, g, hj, rfl, hg, m0, m1, m2, hB⟩ := hrel
        have N0 := Lib.hid m0; clear m0
        have N1 := Lib.hid m1; clear m1
        have N2 := Lib.hid m2; clear m2
        have HG := Lib.hid hg; clear hg
        by_cases hjl : j < 22
        · have h1 := N0.out.cell j (by omega)
          have h2 := N2.out.cell j (by omega)
          have hf2 := N2.out.frozen j
          obtain ⟨u, hu⟩ : ∃ u, u = h j := ⟨_, rfl⟩
          rw [← hu] at h1
          have Hu := Lib.hid hu; clear hu
          go_wp2_with fail
          go_roundw
          case measure => simp [RowKit.intOf]; omega
          case rel =>
           refine ⟨j + 1, upd g j u, by omega, by go_num, ?_, N0.out.other _ _ (by simpa using hne'), N1.out.other _ _ (by simp; omega), N2.out.set _ _, hB.setCell (by simp; omega) _⟩
           intro l hl
           by_cases e : l = j
           · subst e; rw [qu, Hu.out]
           · rw [qs _ _ _ _ e]; exact HG.out l (by omega)
        · obtain rfl : j = 22 := by omega
          obtain ⟨m, hm, hmod, hm255⟩ := HI4.out
          rw [← Qb _ _ _ _ HG.out] at hm
          have m2 := N2.out
          rw [hm] at m2
          have O2 := Lib.hid m2; clear m2
          have HM := Lib.hid hmod; clear hmod
          have HM2 := Lib.hid hm255; clear hm255 hm
          clear N2 HG hjl hj HI4 N0
          go_wp2_with fail
          obtain ⟨w4, rfl⟩ : ∃ w4 : World, w4 = wr := ⟨_, rfl⟩
          go_loopg [101] m (fun gk _ wx => gk % PP = n % PP ∧ gk < 57896044618658097711785492504343953926634992332820282019728792003956564819968 ∧ HasN wx (w.heap.size + 1) 22 101 ∧ Has wx w3.heap.size (r22 gk) 101 ∧ Below w.heap.size w wx)
          case atStart => exact ⟨HM.out, HM2.out, N1.out, O2.out, hB⟩
          case round =>
           clear N1 O2 HM HM2 hB
           obtain ⟨hmod, h255, n1, m2, hB⟩ := hrel
           have N1 := Lib.hid n1; clear n1
           have M2 := Lib.hid m2; clear m2
           have HM := Lib.hid hmod; clear hmod
           have H255 := Lib.hid h255; clear h255
           obtain ⟨w5, rfl⟩ : ∃ w5 : World, w5 = wr := ⟨_, rfl⟩
           have hlt5 := M2.out.lt
           have hu := Tryz.underlying101
           have hi : (Tryz.prog.info? 101).map (·.size) = some (Qc .i64 22 (dg 4096 gk)).length := by rw [zy]; kernel_rfl
           have hR : w5.rangeAt w3.heap.size 0 (Qc .i64 22 (dg 4096 gk)) := M2.out.range
           have hgk : gk < 4096 ^ 22 := lt_p22 _ H255.out
           have HGK := Lib.hid hgk; clear hgk
           have HB := Lib.hid hB; clear hB
           by_cases hp : gk < PP
           · have hd : decide (gk < PP) = true := by simpa using hp
             have hres : gk = n % PP := by rw [← HM.out, Nat.mod_eq_of_lt hp]
             have HR := Lib.hid hres; clear hres hp
             have Hd := Lib.hid hd; clear hd
             go_wp2_with fail
             go_region_held3 (fun w' => Below w5.heap.size w5 w' ∧ w'.rangeAt w3.heap.size 0 (Qc .i64 22 (dg 4096 gk)))
              ((first | assumption | exact ⟨(Below.refl _ _).drew, hR⟩ | (have hk := qX (‹Below w5.heap.size w5 _ ∧ _›).1 hb; exact ⟨hk, qcQ hR hk hlt5⟩)))
              ((first | (go_at_call 110; refine (Z4 _).mono ?_; rintro e w1 ⟨rfl, hb⟩) | (go_at_call 153; refine (qe9 gk PP HGK.out qek _).mono ?_; rintro e w1 ⟨rfl, hb⟩; rw [Hd.out])))
             have hH := Lib.hid (‹Below w5.heap.size w5 _ ∧ _›).1
             have P2 := Lib.hid (M2.out.below hH.out hlt5)
             obtain ⟨Z, hZ, m1⟩ := N1.out.below hH.out N1.out.lt
             have P1 := Lib.hid m1; clear m1
             have HZ := Lib.hid hZ; clear hZ
             have HBB := Lib.hid ((qB (HB.out.trans (hH.out.mono HB.out.size)) (w.heap.size + 1) (r22 gk) (by omega)))
             clear hR hu hi
             go_wp2_with (first | (refine wpList_load_row rfl 101 _ rfl w3.heap.size rfl 101 (r22 gk) (0, 0) _ P2.out Tryz.underlying101 rfl (by rw [qg]; kernel_rfl) ?_) | (refine wpList_store_row rfl 101 _ _ rfl (w.heap.size + 1) _ rfl rfl 101 Z P1.out (by rw [qg]; kernel_rfl) (HZ.out.trans (qg _).symm) (QA _ _ _) ?_))
             exact bodyPost_ret (v := .agg (r22 (n % PP))) (results_cell_row (t := 101) (by rfl) _ _ (w.heap.size + 1) _ _ _ rfl ((P1.out.setRow _).trans (by rw [← HR.out])) Tryz.underlying101 rfl (by rw [qg]; kernel_rfl)) rfl ⟨rfl, HBB.out⟩
           · have hd : decide (gk < PP) = false := by simpa using hp
             have Hp := Lib.hid (Nat.not_lt.1 hp); clear hp
             have Hd := Lib.hid hd; clear hd
             go_wp2_with fail
             go_region_held3 (fun w' => Below w5.heap.size w5 w' ∧ w'.rangeAt w3.heap.size 0 (Qc .i64 22 (dg 4096 gk)))
              ((first | exact ⟨(Below.refl _ _).drew, hR⟩ | exact (‹Below w5.heap.size w5 _ ∧ _›) | (have hk := qX (‹Below w5.heap.size w5 _ ∧ _›).1 hb; exact ⟨hk, qcQ hR hk hlt5⟩)))
              ((first | (go_at_call 110; refine (Z4 _).mono ?_; rintro e w1 ⟨rfl, hb⟩) | (go_at_call 153; refine (qe9 gk PP HGK.out qek _).mono ?_; rintro e w1 ⟨rfl, hb⟩; rw [Hd.out])))
             have hH := Lib.hid (‹Below w5.heap.size w5 _ ∧ _›).1
             obtain ⟨w6, rfl⟩ : ∃ w6 : World, w6 = w1 := ⟨_, rfl⟩
             have P2 := Lib.hid (M2.out.below hH.out hlt5)
             have P1 := Lib.hid (N1.out.below hH.out N1.out.lt)
             have HBB := Lib.hid (HB.out.trans (hH.out.mono HB.out.size))
             clear hR
             obtain ⟨gd, hgd⟩ : ∃ d, d = gk - PP := ⟨_, rfl⟩
             have hl := fun w => qbR gk PP Hp.out HGK.out w
             rw [← hgd] at hl
             have HL := Lib.hid hl; clear hl
             have He := Lib.hid hgd; clear hgd
             have hlt6 := P2.out.lt
             obtain ⟨gd, hgd⟩ : ∃ d, d = gk - PP := ⟨_, rfl⟩
             have hl := fun w => qbR gk PP Hp.out HGK.out w
             rw [← hgd] at hl
             have HL := Lib.hid hl; clear hl
             have He := Lib.hid hgd; clear hgd
             clear hi hu
             go_wp2_with fail
             refine wp_region_noPanic ?_
             refine qbd 3 (fun w' => Below w6.heap.size w6 w' ∧ Has w' w3.heap.size (r22 gk) 101) (by kernel_rfl) ?_
             refine Zo (i := 0) rfl (by kernel_rfl) (by kernel_rfl) (by kernel_rfl) (by kernel_rfl) (by kernel_rfl) (fun _ _ _ h => h) (Qr (by rfl) 101 _ rfl w3.heap.size rfl 101 (r22 gk) (fun w h => h.2) Tryz.underlying101 rfl (by rw [qg]; kernel_rfl)) ⟨(Below.refl _ _).drew, P2.out⟩ ?_
             simp only [Act.put, List.setIfInBounds_toArray]
             refine Ql (i := 1) (by kernel_rfl) rfl (fun K hK => ?_)
             go_simp
             go_at_call 110
             refine (Z4 _).mono ?_
             rintro e w7 ⟨rfl, hb⟩
             refine hK.out _ _ (fun _ => ⟨qX (Below.refl _ _).drew hb, P2.out.below (qX (Below.refl _ _).drew hb) hlt6⟩) ?_
             have hk7 := qX (w4 := w6) (Below.refl _ _).drew hb
             clear hK K hb
             refine Ql (i := 2) (by kernel_rfl) rfl (fun K hK => ?_)
             go_simp
             go_at_call 109
             refine (HL.out _).mono ?_
             rintro e w8 ⟨rfl, hb⟩
             have hk8 := qX hk7 hb
             refine hK.out _ _ (fun _ => ⟨hk8, P2.out.below hk8 hlt6⟩) ?_
             clear hK K hb hk7
             refine Ql (i := 3) (by kernel_rfl) rfl (fun K hK => ?_)
             rw [if_pos (by rfl)]
             refine wp_store_row 101 _ _ rfl w3.heap.size _ rfl rfl 101 (r22 gk) (P2.out.below hk8 hlt6) (by rw [qg]; kernel_rfl) ((qg _).trans (qg _).symm) (QA _ _ _) ?_
             refine hK.out _ _ (fun h => (h rfl).elim) ?_
             clear hK K
             simp only [Act.put, List.setIfInBounds_toArray]
             refine qbh (by kernel_rfl) (NoPanic.normal ?_)
             go_wp2_with fail
             go_roundg gd
             case measure => rw [He.out]; exact Nat.sub_lt (Nat.lt_of_lt_of_le qw Hp.out) qw
             case rel =>
              refine ⟨?_, ?_, (P1.out.below hk8 P1.out.lt).setRow_other _ _ (by omega), (P2.out.below hk8 hlt6).setRow _, qB (HBB.out.trans (hk8.mono HBB.out.size)) _ _ (by omega)⟩
              · rw [He.out, ← HM.out]; exact (Nat.mod_eq_sub_mod Hp.out).symm
              · rw [He.out]; exact Nat.lt_of_le_of_lt (Nat.sub_le _ _) H255.out
end
section
open Go.RowKit Go.Lib
theorem qa6 (n : Nat) (h : Nat → Int) (hb : ∀ i, i < 44 → 0 ≤ h i ∧ h i ≤ 1099511627776) (hs : qn 4096 h 44 = n) (hn : n < bnd 0) : qev n 0 h :=
 ⟨hb, ⟨n, hs, rfl, hn⟩, fun h => by omega, fun h => by omega⟩
theorem bnd0 : bnd 0 = 878694100496718043517683302282418331810487718418343092402491322775749527474899974671687634004666183037093927858109549828751614463963730408009475621262727315456 := by unfold bnd; rw [if_pos rfl]
theorem n22 : (4096 : Nat) ^ 22 = 29642774844752946028434172162224104410437116074403984394101141506025761187823616 := by decide +kernel
theorem qa0 (a : Nat) (ha : a < 4096 ^ 22) : qn 4096 (dg 4096 a) 22 = a := by
 have := zj 4096 a 22
 rwa [Nat.mod_eq_of_lt ha] at this
theorem qb1 (n i : Nat) : dg 4096 n i ≤ 4095 := by have := (qad 4096 n i (by decide)).2; omega
theorem qac (n i : Nat) : 0 ≤ dg 4096 n i := (qad 4096 n i (by decide)).1
theorem plus_inv (a b : Nat) (ha : a < 4096 ^ 22) (hb : b < 4096 ^ 22) (h : Nat → Int) (hl : ∀ i, i < 22 → h i = dg 4096 a i + dg 4096 b i) (hh : ∀ i, 22 ≤ i → h i = 0) : qev (a + b) 0 h := by
 refine qa6 _ h (fun i hi => ?_) ?_ ?_
 · by_cases h2 : i < 22
   · rw [hl i h2]
     have h1 := qb1 a i; have h3 := qb1 b i; have h4 := qac a i; have h5 := qac b i
     omega
   · rw [hh i (by omega)]; omega
 · rw [show (44 : Nat) = 22 + 22 from rfl, Zt, zr 4096 (fun j => h (j + 22)) 22 (fun i hi => hh (i + 22) (by omega)), zm 4096 h (fun j => dg 4096 a j + 1 * dg 4096 b j) 22 (fun i hi => by rw [hl i hi, Int.one_mul]), sumf_lin, qa0 a ha, qa0 b hb]
   omega
 · rw [bnd0]; rw [n22] at ha hb; omega
theorem qa2 (a b : Nat) (ha : a < 4096 ^ 22) (hb : b < 4096 ^ 22) (w : World) :
 Calls Tryz.prog 112 #[.agg (r22 a), .agg (r22 b)] w fun e w' => e = .returned (.agg (r22 ((a + b) % PP))) ∧ Below w.heap.size w w' := by
 have HI := Lib.hid (plus_inv a b ha hb); clear ha hb
 go_enter Tryz.func112, Tryz.ntmps112
 go_wp2_with fail
 go_loopw [6] (fun i wr => ∃ (k : Nat) (h : Nat → Int), k ≤ 22 ∧ i = .int .i64 k ∧ (∀ j, j < k → h j = dg 4096 a j + dg 4096 b j) ∧ (∀ j, k ≤ j → h j = 0) ∧ Has wr w.heap.size (r22 a) 101 ∧ Has wr (w.heap.size + 1) (r22 b) 101 ∧ HasN wr (w.heap.size + 1 + 1) 22 101 ∧ Has wr (w.heap.size + 1 + 1 + 1) (row .i64 44 h) 176 ∧ Below w.heap.size w wr) (fun i _ => 22 - (RowKit.intOf i).toNat)
 case atStart =>
  exact ⟨0, fun _ => 0, by omega, rfl, fun j hj => by omega, fun _ _ => rfl, ((Has.new _ _ _).alloc _ |>.alloc _).alloc _, ((Has.new1 _ _ _ _).alloc _).alloc _, (HasN.new2 _ _ _ _ _ 22 rfl).alloc _, Has.new3 _ _ _ _ _ _, below_4 _ _ _ _ _⟩
 case round =>
  obtain ⟨k, h, hk, rfl, hl, hh, m0, m1, m2, m3, hB⟩ := hrel
  have M0 := Lib.hid m0; clear m0
  have M1 := Lib.hid m1; clear m1
  have M2 := Lib.hid m2; clear m2
  have M3 := Lib.hid m3; clear m3
  have HL := Lib.hid hl; clear hl
  have HH := Lib.hid hh; clear hh
  by_cases hlt : k < 22
  · have h1 := M0.out.cell k hlt
    have h2 := M1.out.cell k hlt
    have h3 := M3.out.cell k (by omega)
    have hfz := M3.out.frozen k
    have x0 := qac a k
    have x1 := qb1 a k
    have y0 := qac b k
    have y1 := qb1 b k
    obtain ⟨x, hx⟩ : ∃ x, x = dg 4096 a k := ⟨_, rfl⟩
    obtain ⟨y, hy⟩ : ∃ y, y = dg 4096 b k := ⟨_, rfl⟩
    rw [← hx] at h1 x0 x1
    rw [← hy] at h2 y0 y1
    have Hx := Lib.hid hx; clear hx
    have Hy := Lib.hid hy; clear hy
    go_wp2_with fail
    go_region
    go_wp2_with fail
    go_roundw
    case measure => simp [RowKit.intOf]; omega
    case rel =>
     refine ⟨k + 1, upd h k (x + y), by omega, by go_num, ?_, ?_, M0.out.other _ _ (by simp <;> omega), M1.out.other _ _ (by simp <;> omega), M2.out.other _ _ (by simp), M3.out.set _ _, (hB.setCell (by simp <;> omega) _).drew⟩
     · intro j hj
       by_cases e : j = k
       · subst e; rw [qu, Hx.out, Hy.out]
       · rw [qs _ _ _ _ e]; exact HL.out j (by omega)
     · intro j hj; rw [qs _ _ _ _ (by omega)]; exact HH.out j (by omega)
  · obtain rfl : k = 22 := by omega
    have HC := Lib.hid (HI.out h HL.out HH.out)
    go_wp2_with (first | (refine wpList_load_row rfl 176 _ rfl (w.heap.size + 1 + 1 + 1) rfl 176 (row .i64 44 h) (0, 0) _ M3.out Tryz.underlying176 rfl (by kernel_rfl) ?_))
    refine (qa5 _ h HC.out _).mono ?_
    rintro e w1 ⟨rfl, hb1⟩
    obtain ⟨Z, hZ, m1⟩ := M2.out.below hb1 M2.out.lt
    have P1 := Lib.hid m1; clear m1
    have HZ := Lib.hid hZ; clear hZ
    have HBB := Lib.hid (qB (hB.trans (hb1.mono hB.size)) (w.heap.size + 1 + 1) (r22 ((a + b) % PP)) (by omega))
    clear hb1
    go_wp2_with (refine wpList_store_row rfl 101 _ _ rfl (w.heap.size + 1 + 1) _ rfl rfl 101 Z P1.out (by rw [qg]; kernel_rfl) (HZ.out.trans (qg _).symm) (QA _ _ _) ?_)
    exact bodyPost_ret (v := .agg (r22 ((a + b) % PP))) (results_cell_row (t := 101) (by rfl) _ _ (w.heap.size + 1 + 1) _ _ _ rfl (P1.out.setRow _) Tryz.underlying101 rfl (by rw [qg]; kernel_rfl)) rfl ⟨rfl, HBB.out⟩
end
section
open Go.RowKit Go.Lib
theorem mul_bd (x y : Int) (hx0 : 0 ≤ x) (hx : x ≤ 4095) (hy0 : 0 ≤ y) (hy : y ≤ 4095) : 0 ≤ x * y ∧ x * y ≤ 16769025 :=
 ⟨Int.mul_nonneg hx0 hy0, by have := Int.mul_le_mul hx hy hy0 (by decide); omega⟩
theorem times_inv (a b : Nat) (ha : a < PP) (hb : b < PP) (h : Nat → Int) (hd : ∀ j, j < 44 → 0 ≤ h j ∧ h j ≤ 484 * 16769025) (hs : qn 4096 h 44 = qn 4096 (dg 4096 a) 22 * b) : qev (a * b) 0 h := by
 have h22 := qek
 refine qa6 _ h (fun i hi => by have := hd i hi; omega) ?_ ?_
 · rw [hs, qa0 a (by omega)]; norm_cast
 · rw [bnd0]
   have e : PP < 2 ^ 255 := by decide +kernel
   have h1 : a * b < 2 ^ 255 * 2 ^ 255 := Nat.mul_lt_mul'' (by omega) (by omega)
   have e2 : (2 : Nat) ^ 255 * 2 ^ 255 = 3351951982485649274893506249551461531869841455148098344430890360930441007518386744200468574541725856922507964546621512713438470702986642486608412251521024 := by decide +kernel
   omega
theorem q9 (a b : Nat) (ha : a < PP) (hb : b < PP) (w : World) :
 Calls Tryz.prog 82 #[.agg (r22 a), .agg (r22 b)] w fun e w' => e = .returned (.agg (r22 (a * b % PP))) ∧ Below w.heap.size w w' := by
 have hb2 : (b : Int) = qn 4096 (dg 4096 b) 22 := (qa0 b (Nat.lt_trans hb qek)).symm
 have HB2 := Lib.hid hb2; clear hb2
 have HI := Lib.hid (times_inv a b ha hb); clear ha hb
 go_enter Tryz.func82, Tryz.ntmps82
 go_wp2_with fail
 go_loopw [6] (fun i wr => ∃ (k : Nat) (h : Nat → Int), k ≤ 22 ∧ i = .int .i64 k ∧ (∀ j, j < 44 → 0 ≤ h j ∧ h j ≤ 22 * (k : Int) * 16769025) ∧ qn 4096 h 44 = qn 4096 (dg 4096 a) k * b ∧ Has wr w.heap.size (r22 a) 101 ∧ Has wr (w.heap.size + 1) (r22 b) 101 ∧ HasN wr (w.heap.size + 1 + 1) 22 101 ∧ Has wr (w.heap.size + 1 + 1 + 1) (row .i64 44 h) 176 ∧ Below w.heap.size w wr) (fun i _ => 22 - (RowKit.intOf i).toNat)
 case atStart =>
  exact ⟨0, fun _ => 0, by omega, rfl, fun j hj => by simp, by rw [zr _ _ _ (fun _ _ => rfl)]; simp [qn], ((Has.new _ _ _).alloc _ |>.alloc _).alloc _, ((Has.new1 _ _ _ _).alloc _).alloc _, (HasN.new2 _ _ _ _ _ 22 rfl).alloc _, Has.new3 _ _ _ _ _ _, below_4 _ _ _ _ _⟩
 case round =>
  obtain ⟨i, h0, hi, rfl, hd, hs, m0, m1, m2, m3, hB⟩ := hrel
  have M0 := Lib.hid m0; clear m0
  have M1 := Lib.hid m1; clear m1
  have M2 := Lib.hid m2; clear m2
  have M3 := Lib.hid m3; clear m3
  have HD := Lib.hid hd; clear hd
  have HS := Lib.hid hs; clear hs
  by_cases hlt : i < 22
  · go_wp2_with fail
    obtain ⟨wo, rfl⟩ : ∃ wo : World, wo = wr := ⟨_, rfl⟩
    go_loopw [7] (fun s wr => ∃ (k : Nat) (h : Nat → Int), k ≤ 22 ∧ s = .int .i64 k ∧ (∀ j, j < 44 → 0 ≤ h j ∧ h j ≤ (22 * (i : Int) + k) * 16769025) ∧ qn 4096 h 44 = qn 4096 (dg 4096 a) i * b + dg 4096 a i * 4096 ^ i * qn 4096 (dg 4096 b) k ∧ Has wr w.heap.size (r22 a) 101 ∧ Has wr (w.heap.size + 1) (r22 b) 101 ∧ HasN wr (w.heap.size + 1 + 1) 22 101 ∧ Has wr (w.heap.size + 1 + 1 + 1) (row .i64 44 h) 176 ∧ Below w.heap.size w wr) (fun s _ => 22 - (RowKit.intOf s).toNat)
    case atStart => exact ⟨0, h0, by omega, rfl, fun j hj => by have := HD.out j hj; omega, by rw [show qn 4096 (dg 4096 b) 0 = 0 from rfl, Int.mul_zero, Int.add_zero]; exact HS.out, M0.out, M1.out, M2.out, M3.out, hB⟩
    case round =>
     clear M0 M1 M2 M3 hB
     obtain ⟨k, h, hk, rfl, hd, hs, m0, m1, m2, m3, hB⟩ := hrel
     have M0 := Lib.hid m0; clear m0
     have M1 := Lib.hid m1; clear m1
     have M2 := Lib.hid m2; clear m2
     have M3 := Lib.hid m3; clear m3
     have HE := Lib.hid hd; clear hd
     have HT := Lib.hid hs; clear hs
     by_cases hlk : k < 22
     · have h1 := M0.out.cell i hlt
       have h2 := M1.out.cell k hlk
       have h3 := M3.out.cell (i + k) (by omega)
       have hfz := M3.out.frozen (i + k)
       have x0 := qac a i
       have x1 := qb1 a i
       have y0 := qac b k
       have y1 := qb1 b k
       have hz := HE.out (i + k) (by omega)
       obtain ⟨x, hx⟩ : ∃ x, x = dg 4096 a i := ⟨_, rfl⟩
       obtain ⟨y, hy⟩ : ∃ y, y = dg 4096 b k := ⟨_, rfl⟩
       obtain ⟨z, hzz⟩ : ∃ z, z = h (i + k) := ⟨_, rfl⟩
       rw [← hx] at h1 x0 x1
       rw [← hy] at h2 y0 y1
       rw [← hzz] at h3 hz
       have hxy := mul_bd x y x0 x1 y0 y1
       obtain ⟨xy0, xy1⟩ := hxy
       obtain ⟨z0, z1⟩ := hz
       have Hx := Lib.hid hx; clear hx
       have Hy := Lib.hid hy; clear hy
       have Hz := Lib.hid hzz; clear hzz
       go_wp2_with fail
       go_region
       go_wp2_with fail
       go_roundw
       case measure => simp [RowKit.intOf]; omega
       case rel =>
        refine ⟨k + 1, upd h (i + k) (z + x * y), by omega, by go_num, ?_, ?_, M0.out.other _ _ (by simp <;> omega), M1.out.other _ _ (by simp <;> omega), M2.out.other _ _ (by simp <;> omega), M3.out.set _ _, (hB.setCell (by simp <;> omega) _).drew⟩
        · intro j hj
          by_cases e : j = i + k
          · subst e; rw [qu]; omega
          · rw [qs _ _ _ _ e]; have := HE.out j hj; omega
        · rw [Qt _ _ _ _ _ (by omega), HT.out, ← Hz.out, ← Hx.out]
          simp only [qn]
          rw [← Hy.out, Int.pow_add]
          grind
     · obtain rfl : k = 22 := by omega
       go_wp2_with fail
       go_roundw
       case measure => simp [RowKit.intOf]; omega
       case rel =>
        refine ⟨i + 1, h, by omega, by go_num, fun j hj => by have := HE.out j hj; omega, ?_, M0.out, M1.out, M2.out, M3.out, hB⟩
        rw [HT.out, ← HB2.out]
        simp only [qn]
        rw [Int.add_mul]
  · obtain rfl : i = 22 := by omega
    have HC := Lib.hid (HI.out h0 (fun j hj => by have := HD.out j hj; omega) HS.out)
    go_wp2_with (first | (refine wpList_load_row rfl 176 _ rfl (w.heap.size + 1 + 1 + 1) rfl 176 (row .i64 44 h0) (0, 0) _ M3.out Tryz.underlying176 rfl (by kernel_rfl) ?_))
    refine (qa5 _ h0 HC.out _).mono ?_
    rintro e w1 ⟨rfl, hb1⟩
    obtain ⟨Z, hZ, m1⟩ := M2.out.below hb1 M2.out.lt
    have P1 := Lib.hid m1; clear m1
    have HZ := Lib.hid hZ; clear hZ
    have HBB := Lib.hid (qB (hB.trans (hb1.mono hB.size)) (w.heap.size + 1 + 1) (r22 (a * b % PP)) (by omega))
    clear hb1
    go_wp2_with (refine wpList_store_row rfl 101 _ _ rfl (w.heap.size + 1 + 1) _ rfl rfl 101 Z P1.out (by rw [qg]; kernel_rfl) (HZ.out.trans (qg _).symm) (QA _ _ _) ?_)
    exact bodyPost_ret (v := .agg (r22 (a * b % PP))) (results_cell_row (t := 101) (by rfl) _ _ (w.heap.size + 1 + 1) _ _ _ rfl (P1.out.setRow _) Tryz.underlying101 rfl (by rw [qg]; kernel_rfl)) rfl ⟨rfl, HBB.out⟩
theorem rminus_any (a b : Nat) (ha : a < PP) (hb : b < PP) (w : World) :
 Calls Tryz.prog 113 #[.agg (r22 a), .agg (r22 b)] w fun e w' => e = .returned (.agg (r22 ((a + (PP - b)) % PP))) ∧ Below w.heap.size w w' := by
 have h22 := qek
 have hpb : PP - b < 4096 ^ 22 := Nat.lt_of_le_of_lt (Nat.sub_le _ _) h22
 have ha2 := Nat.lt_trans ha h22
 obtain ⟨d, hd⟩ : ∃ d, d = PP - b := ⟨_, rfl⟩
 have hl := fun w => qbR PP b (Nat.le_of_lt hb) h22 w
 rw [← hd] at hl hpb ⊢
 have hp := fun w => qa2 a d ha2 hpb w
 obtain ⟨r, hr⟩ : ∃ r, r = (a + d) % PP := ⟨_, rfl⟩
 rw [← hr] at hp ⊢
 have HL := Lib.hid hl; clear hl
 have HP := Lib.hid hp; clear hp
 clear hr hd ha hb h22 hpb ha2
 go_enter Tryz.func113, Tryz.ntmps113
 go_wp2_with fail
 refine wp_region_noPanic ?_
 refine qaz 5 (by kernel_rfl) ?_
 intro W0 hW0
 have M0 := Lib.hid (show Has W0 w.heap.size (r22 a) 101 by rw [hW0]; exact ((Has.new _ _ _).alloc _).alloc _)
 have M1 := Lib.hid (show Has W0 (w.heap.size + 1) (r22 b) 101 by rw [hW0]; exact (Has.new1 _ _ _ _).alloc _)
 have M2 := Lib.hid (show HasN W0 (w.heap.size + 1 + 1) 22 101 by rw [hW0]; exact HasN.new2 _ _ _ _ _ 22 rfl)
 have HB := Lib.hid (show Below w.heap.size w W0 by rw [hW0]; exact qax _ _ _ _)
 clear hW0
 refine Zo (i := 0) rfl (by kernel_rfl) (by kernel_rfl) (by kernel_rfl) (by kernel_rfl) (by kernel_rfl) (fun _ _ _ h => h) (Qr (by rfl) 101 _ rfl (w.heap.size) rfl 101 (r22 a) (fun _ h => M0.out.below h M0.out.lt) Tryz.underlying101 rfl (by rw [qg]; kernel_rfl)) ((Below.refl _ _).drew) ?_
 (try simp only [Act.put]); (try simp only [List.setIfInBounds_toArray])
 refine Zo (i := 2) rfl (by kernel_rfl) (by kernel_rfl) (by kernel_rfl) (by kernel_rfl) (by kernel_rfl) (fun _ _ _ h => h) (Qr (by rfl) 101 _ rfl (w.heap.size + 1) rfl 101 (r22 b) (fun _ h => M1.out.below h M1.out.lt) Tryz.underlying101 rfl (by rw [qg]; kernel_rfl)) ((Below.refl _ _).drew) ?_
 (try simp only [Act.put]); (try simp only [List.setIfInBounds_toArray])
 refine Ql (i := 1) (by kernel_rfl) rfl (fun K hK => ?_)
 go_simp
 go_at_call 110
 refine (Z4 _).mono ?_
 rintro e wW01 ⟨rfl, hb⟩
 have hkW01 := qX (Below.refl _ _).drew hb
 refine hK.out _ _ (fun _ => hkW01) ?_
 clear hK K hb
 refine Ql (i := 3) (by kernel_rfl) rfl (fun K hK => ?_)
 go_simp
 go_at_call 109
 refine (HL.out _).mono ?_
 rintro e wW02 ⟨rfl, hb⟩
 have hkW02 := qX hkW01 hb
 refine hK.out _ _ (fun _ => hkW02) ?_
 clear hK K hb
 refine Ql (i := 4) (by kernel_rfl) rfl (fun K hK => ?_)
 go_simp
 go_at_call 112
 refine (HP.out _).mono ?_
 rintro e wW03 ⟨rfl, hb⟩
 have hkW03 := qX hkW02 hb
 refine hK.out _ _ (fun _ => hkW03) ?_
 clear hK K hb
 obtain ⟨Z, hZ, mZ⟩ := M2.out.below hkW03 M2.out.lt
 have MZ := Lib.hid mZ; clear mZ
 have HZ := Lib.hid hZ; clear hZ
 refine Ql (i := 5) (by kernel_rfl) rfl (fun K hK => ?_)
 rw [if_pos (by rfl)]
 refine wp_store_row 101 _ _ rfl (w.heap.size + 1 + 1) _ rfl rfl 101 Z MZ.out (by rw [qg]; kernel_rfl) (HZ.out.trans (qg _).symm) (QA _ _ _) ?_
 refine hK.out _ _ (fun h => (h rfl).elim) ?_
 clear hK K
 (try simp only [Act.put]); (try simp only [List.setIfInBounds_toArray])
 refine qbh (by kernel_rfl) (NoPanic.normal ?_)
 go_wp2_with fail
 exact bodyPost_ret (v := .agg (r22 r)) (results_cell_row (t := 101) (by rfl) _ _ (w.heap.size + 1 + 1) _ _ _ rfl (MZ.out.setRow _) Tryz.underlying101 rfl (by rw [qg]; kernel_rfl)) rfl ⟨rfl, qB (HB.out.trans (hkW03.mono HB.out.size)) _ _ (by omega)⟩
end
section
open Go.RowKit Go.Lib
def k32 (n : Nat) : Array Value := row .u8 32 (dg 256 n)
theorem qf (n : Nat) : (k32 n).size = 32 := qR _ _ _
theorem bit8 (n k : Nat) : (n / 256 ^ (k / 8) % 256) / 2 ^ (k % 8) % 2 = n / 2 ^ k % 2 := by
 have e : 2 ^ k = 256 ^ (k / 8) * 2 ^ (k % 8) := by
  rw [show (256 : Nat) = 2 ^ 8 from rfl, ← Nat.pow_mul, ← Nat.pow_add, Nat.div_add_mod]
 rw [e, ← Nat.div_div_eq_div_mul]
 generalize n / 256 ^ (k / 8) = q
 have hr : k % 8 < 8 := Nat.mod_lt _ (by decide)
 generalize k % 8 = r at *
 rcases (show r = 0 ∨ r = 1 ∨ r = 2 ∨ r = 3 ∨ r = 4 ∨ r = 5 ∨ r = 6 ∨ r = 7 by omega) with rfl | rfl | rfl | rfl | rfl | rfl | rfl | rfl <;> simp <;> omega
theorem bit12 (n k : Nat) : (n / 4096 ^ (k / 12) % 4096) / 2 ^ (k % 12) % 2 = n / 2 ^ k % 2 := by
 have e : 2 ^ k = 4096 ^ (k / 12) * 2 ^ (k % 12) := by
  rw [show (4096 : Nat) = 2 ^ 12 from rfl, ← Nat.pow_mul, ← Nat.pow_add, Nat.div_add_mod]
 rw [e, ← Nat.div_div_eq_div_mul]
 generalize n / 4096 ^ (k / 12) = q
 have hr : k % 12 < 12 := Nat.mod_lt _ (by decide)
 generalize k % 12 = r at *
 rcases (show r = 0 ∨ r = 1 ∨ r = 2 ∨ r = 3 ∨ r = 4 ∨ r = 5 ∨ r = 6 ∨ r = 7 ∨ r = 8 ∨ r = 9 ∨ r = 10 ∨ r = 11 by omega) with rfl | rfl | rfl | rfl | rfl | rfl | rfl | rfl | rfl | rfl | rfl | rfl <;> simp <;> omega
theorem pow12 (k : Nat) : (2 : Int) ^ (k % 12) * 4096 ^ (k / 12) = 2 ^ k := by
 rw [show (4096 : Int) = 2 ^ 12 from rfl, ← Int.pow_mul, ← Int.pow_add, Nat.mod_add_div]
theorem qas (n k : Nat) : n % 2 ^ (k + 1) = n % 2 ^ k + n / 2 ^ k % 2 * 2 ^ k := by
 rw [Nat.pow_succ, Nat.mod_mul, Nat.mul_comm]
theorem fig_le (B : Int) (hB : 0 < B) (f : Nat → Int) (n i : Nat) (hi : i < n) (h : ∀ j, j < n → 0 ≤ f j) : f i * B ^ i ≤ qn B f n := by
 have h1 := Qt B f n i 0 hi
 have h2 := Qf B hB (upd f i 0) n (fun j hj => by
  by_cases e : j = i
  · subst e; rw [qu]; omega
  · rw [qs _ _ _ _ e]; exact h j hj)
 rw [h1, Int.zero_sub, Int.neg_mul] at h2
 omega
theorem room12 (h : Nat → Int) (n k : Nat) (hk : k < 264) (hd : ∀ j, j < 44 → 0 ≤ h j ∧ h j < 4096) (hs : qn 4096 h 44 = ((n % 2 ^ k : Nat) : Int)) : h (k / 12) < 2 ^ (k % 12) := by
 have h1 := fig_le 4096 (by decide) h 44 (k / 12) (by omega) (fun j hj => (hd j hj).1)
 rw [hs] at h1
 have h2 : ((n % 2 ^ k : Nat) : Int) < 2 ^ k := by
  have : n % 2 ^ k < 2 ^ k := Nat.mod_lt _ (Nat.pow_pos (by decide))
  have e : ((2 ^ k : Nat) : Int) = (2 : Int) ^ k := by rw [Int.natCast_pow]; rfl
  omega
 rw [← pow12 k] at h2
 exact Int.lt_of_mul_lt_mul_right (Int.lt_of_le_of_lt h1 h2) (Int.le_of_lt (Int.pow_pos (by decide)))
theorem pow12_le (k : Nat) : (2 : Int) ^ (k % 12) ≤ 2048 := by
 have hr : k % 12 < 12 := Nat.mod_lt _ (by decide)
 generalize k % 12 = r at *
 rcases (show r = 0 ∨ r = 1 ∨ r = 2 ∨ r = 3 ∨ r = 4 ∨ r = 5 ∨ r = 6 ∨ r = 7 ∨ r = 8 ∨ r = 9 ∨ r = 10 ∨ r = 11 by omega) with rfl | rfl | rfl | rfl | rfl | rfl | rfl | rfl | rfl | rfl | rfl | rfl <;> decide
theorem div_pow_bd (x : Int) (k : Nat) (h0 : 0 ≤ x) (h1 : x < 256) : 0 ≤ x / 2 ^ k ∧ x / 2 ^ k < 256 := by
 have hp : (0 : Int) < 2 ^ k := Int.pow_pos (by decide)
 refine ⟨Int.ediv_nonneg h0 (Int.le_of_lt hp), ?_⟩
 have := Int.ediv_le_self (2 ^ k) h0
 omega
theorem of_inv (n : Nat) (h : Nat → Int) (hd : ∀ j, j < 44 → 0 ≤ h j ∧ h j < 4096) (hs : qn 4096 h 44 = ((n % 2 ^ 255 : Nat) : Int)) : qev (n % 2 ^ 255) 0 h := by
 refine qa6 _ h (fun i hi => by have := hd i hi; omega) hs ?_
 rw [bnd0]
 have : n % 2 ^ 255 < 2 ^ 255 := Nat.mod_lt _ (Nat.pow_pos (by decide))
 have e : (2 : Nat) ^ 255 = 57896044618658097711785492504343953926634992332820282019728792003956564819968 := by decide +kernel
 omega
theorem dbl_le (b v : Int) (j m : Nat) (hb0 : 0 ≤ b) (hb : b ≤ 1) (hj : j < m) (hm : (2 : Int) ^ m ≤ 2048) (hv : v = b * 2 ^ j) : 0 ≤ v ∧ v ≤ 1024 := by
 have hp : (0 : Int) < 2 ^ j := Int.pow_pos (by decide)
 have h2 : (2 : Int) ^ (j + 1) ≤ 2 ^ m := by
  obtain ⟨d, rfl⟩ : ∃ d, m = j + 1 + d := ⟨m - (j + 1), by omega⟩
  rw [Int.pow_add 2 (j + 1) d]
  have hd : (1 : Int) ≤ 2 ^ d := by have : (0 : Int) < 2 ^ d := Int.pow_pos (by decide); omega
  have h3 : (2 : Int) ^ (j + 1) * 1 ≤ 2 ^ (j + 1) * 2 ^ d := Int.mul_le_mul_of_nonneg_left hd (Int.le_of_lt (Int.pow_pos (by decide)))
  omega
 rw [Int.pow_succ] at h2
 rcases (show b = 0 ∨ b = 1 by omega) with rfl | rfl
 · rw [hv]; simp
 · rw [hv]; omega
theorem ofbit (n k : Nat) (x : Int) (hx : x = dg 256 n (k / 8)) : x / 2 ^ (k % 8) % 2 = ((n / 2 ^ k % 2 : Nat) : Int) := by
 rw [hx, dg, ← bit8 n k]
 norm_cast
theorem rof_any (n : Nat) (w : World) :
 Calls Tryz.prog 80 #[.agg (k32 n)] w fun e w' => e = .returned (.agg (r22 (n % 2 ^ 255 % PP))) ∧ Below w.heap.size w w' := by
 have HI := Lib.hid (of_inv n)
 obtain ⟨m, hm⟩ : ∃ m, m = n % 2 ^ 255 := ⟨_, rfl⟩
 obtain ⟨r, hr⟩ : ∃ r, r = m % PP := ⟨_, rfl⟩
 have hle := fun h hi w => qa5 m h hi w
 rw [← hm] at HI ⊢
 rw [← hr] at hle ⊢
 have Hle := Lib.hid hle; clear hle
 have Hm := Lib.hid hm; clear hm
 clear hr
 go_enter Tryz.func80, Tryz.ntmps80
 go_wp2_with fail
 go_loopw [4] (fun i wr => ∃ (k : Nat) (h : Nat → Int), k ≤ 255 ∧ i = .int .i64 k ∧ (∀ j, j < 44 → 0 ≤ h j ∧ h j < 4096) ∧ qn 4096 h 44 = ((n % 2 ^ k : Nat) : Int) ∧ Has wr w.heap.size (k32 n) 36 ∧ HasN wr (w.heap.size + 1) 22 101 ∧ Has wr (w.heap.size + 1 + 1) (row .i64 44 h) 176 ∧ Below w.heap.size w wr) (fun i _ => 255 - (RowKit.intOf i).toNat)
 case atStart => exact ⟨0, fun _ => 0, by omega, rfl, fun j hj => by simp, by rw [zr _ _ _ (fun _ _ => rfl)]; simp [Nat.mod_one], ((Has.new _ _ _).alloc _).alloc _, (HasN.new1 _ _ _ _ 22 rfl).alloc _, Has.new2 _ _ _ _ _, qax _ _ _ _⟩
 case round =>
  obtain ⟨k, h, hk, rfl, hd, hs, m0, m1, m2, hB⟩ := hrel
  have M0 := Lib.hid m0; clear m0
  have M1 := Lib.hid m1; clear m1
  have M2 := Lib.hid m2; clear m2
  have Hd := Lib.hid hd; clear hd
  have Hs := Lib.hid hs; clear hs
  by_cases hlt : k < 255
  · have h1 := M0.out.cell (k / 8) (by omega)
    have x0 := (qad 256 n (k / 8) (by decide)).1
    have x1 := (qad 256 n (k / 8) (by decide)).2
    obtain ⟨x, hx⟩ : ∃ x, x = dg 256 n (k / 8) := ⟨_, rfl⟩
    rw [← hx] at h1 x0 x1
    have hbit := ofbit n k x hx
    have k0 : (0 : Int) ≤ (k : Int) % 8 := by omega
    have k1 : (k : Int) % 8 < 8 := by omega
    have k2 : (0 : Int) ≤ (k : Int) / 8 := by omega
    have k3 : (k : Int) / 8 < 32 := by omega
    obtain ⟨s0, s1⟩ := div_pow_bd x (k % 8) x0 x1
    have Hx := Lib.hid hx; clear hx
    have Hbit := Lib.hid hbit; clear hbit
    go_wp2_with fail
    obtain ⟨b, hb⟩ : ∃ b, b = x / 2 ^ (k % 8) % 2 := ⟨_, rfl⟩
    rw [← hb]
    have b0 : 0 ≤ b := by omega
    have b1 : b ≤ 1 := by omega
    have hbn : b = ((n / 2 ^ k % 2 : Nat) : Int) := hb.trans Hbit.out
    have hp12 := pow12_le k
    have Hb := Lib.hid hb; clear hb
    have Hbn := Lib.hid hbn; clear hbn
    have Hp12 := Lib.hid hp12; clear hp12
    clear h1 Hbit s0 s1
    obtain ⟨wo, rfl⟩ : ∃ wo : World, wo = wr := ⟨_, rfl⟩
    go_loop [5, 6] (fun t i => ∃ (j : Nat) (v : Int), j ≤ k % 12 ∧ i = .int .i64 j ∧ t = .int .i64 v ∧ v = b * 2 ^ j) (fun _ i => k % 12 - (RowKit.intOf i).toNat)
    case atStart => exact ⟨0, b, by omega, rfl, rfl, by simp⟩
    case round =>
     obtain ⟨j, v, hj, rfl, rfl, hv⟩ := hrel
     by_cases hjl : j < k % 12
     · have hvb := dbl_le b v j (k % 12) b0 b1 hjl Hp12.out hv
       obtain ⟨v0, v1⟩ := hvb
       have hj2 : (j : Int) < (k : Int) % 12 := by omega
       have Hv := Lib.hid hv; clear hv
       go_wp2_with fail
       go_round
       case measure => simp [RowKit.intOf]; omega
       case rel => exact ⟨j + 1, 2 * v, by omega, by go_num, rfl, by rw [Hv.out, Int.pow_succ, Int.mul_comm 2, Int.mul_assoc]⟩
     · obtain rfl : j = k % 12 := by omega
       have hj2 : (k : Int) % 12 ≤ (((k % 12 : Nat) : Int)) := by omega
       have h2 := M2.out.cell (k / 12) (by omega)
       have hfz := M2.out.frozen (k / 12)
       have hy := room12 h n k (by omega) Hd.out Hs.out
       have hy0 := (Hd.out (k / 12) (by omega)).1
       obtain ⟨y, hyy⟩ : ∃ y, y = h (k / 12) := ⟨_, rfl⟩
       rw [← hyy] at h2 hy hy0
       have hvle : v ≤ 2 ^ (k % 12) := by
        have hpp : (0 : Int) < 2 ^ (k % 12) := Int.pow_pos (by decide)
        rcases (show b = 0 ∨ b = 1 by omega) with e | e
        · rw [hv, e]; omega
        · rw [hv, e]; omega
       have hv0 : 0 ≤ v := by
        have hpp : (0 : Int) < 2 ^ (k % 12) := Int.pow_pos (by decide)
        rcases (show b = 0 ∨ b = 1 by omega) with e | e
        · rw [hv, e]; omega
        · rw [hv, e]; omega
       have hyv : y + v < 4096 := by have := Hp12.out; omega
       clear hy hvle
       have k4 : (0 : Int) ≤ (k : Int) / 12 := by omega
       have k5 : (k : Int) / 12 < 44 := by omega
       have Hv := Lib.hid hv; clear hv
       have Hyy := Lib.hid hyy; clear hyy
       go_wp2_with fail
       go_roundw
       case measure => simp [RowKit.intOf]; omega
       case rel =>
        refine ⟨k + 1, upd h (k / 12) (y + v), by omega, by go_num, ?_, ?_, M0.out.other _ _ (by simp <;> omega), M1.out.other _ _ (by simp <;> omega), M2.out.set _ _, hB.setCell (by simp <;> omega) _⟩
        · intro j hj
          by_cases e : j = k / 12
          · subst e; rw [qu]; omega
          · rw [qs _ _ _ _ e]; exact Hd.out j hj
        · rw [Qt _ _ _ _ _ (by omega), Hs.out, qas, ← Hyy.out, Hv.out, Hbn.out]
          have e := pow12 k
          have e2 : ((n % 2 ^ k + n / 2 ^ k % 2 * 2 ^ k : Nat) : Int) = ((n % 2 ^ k : Nat) : Int) + ((n / 2 ^ k % 2 : Nat) : Int) * 2 ^ k := by
           rw [Int.natCast_add, Int.natCast_mul, Int.natCast_pow]; rfl
          rw [e2, ← e]
          generalize ((n / 2 ^ k % 2 : Nat) : Int) = B
          generalize (2 : Int) ^ (k % 12) = U
          generalize (4096 : Int) ^ (k / 12) = V
          grind
  · obtain rfl : k = 255 := by omega
    have HC := Lib.hid (HI.out h Hd.out (by rw [Hs.out, ← Hm.out]))
    go_wp2_with (first | (refine wpList_load_row rfl 176 _ rfl (w.heap.size + 1 + 1) rfl 176 (row .i64 44 h) (0, 0) _ M2.out Tryz.underlying176 rfl (by rw [qR]; kernel_rfl) ?_))
    refine (Hle.out h HC.out _).mono ?_
    rintro e w1 ⟨rfl, hb1⟩
    obtain ⟨Z, hZ, mz⟩ := M1.out.below hb1 M1.out.lt
    have HBB := Lib.hid (qB (hB.trans (hb1.mono hB.size)) (w.heap.size + 1) (r22 r) (by omega))
    clear hb1
    have Mz := Lib.hid mz; clear mz
    have HZ := Lib.hid hZ; clear hZ
    go_wp2_with (refine wpList_store_row rfl 101 _ _ rfl (w.heap.size + 1) _ rfl rfl 101 Z Mz.out (by rw [qg]; kernel_rfl) (HZ.out.trans (qg _).symm) (QA _ _ _) ?_)
    exact bodyPost_ret (v := .agg (r22 r)) (results_cell_row (t := 101) (by rfl) _ _ (w.heap.size + 1) _ _ _ rfl (Mz.out.setRow _) Tryz.underlying101 rfl (by rw [qg]; kernel_rfl)) rfl ⟨rfl, HBB.out⟩
end
end Go.Proofs.YtbgefoamhdgnaaaGreatDoor
namespace Go.Sx
section
open Go Go.RowKit
variable {C : Cx} {ops : Array Oper} {L0 : List Ent} {Q : Act → World → Prop}
def Inc (σ τ : Fr) : Prop := ∀ i v, get σ i = some v → get τ i = some v
theorem Inc.put {σ τ : Fr} (h : Inc σ τ) (N : Nat) (d : Option Nat) (v : Value) : Inc (put N d v σ) (put N d v τ) := fun i u hu => by
 rw [qa7] at hu ⊢
 split at hu
 · rename_i hc; rw [if_pos hc]; exact hu
 · rename_i hc; rw [if_neg hc]; exact h i u hu
theorem dG_mono (n : Nat) : ∀ (l : Array Bool) (s s' : Sy), Sub L0 s'.L → Inc s.σ s'.σ → (∀ w, St C.M C.B w s'.L → St C.M C.B w s.L) → s.D = s'.D → dG C ops L0 [] Q n l s → dG C ops L0 [] Q n l s' := by
 have fit : ∀ (s s' : Sy) (a : Act), Inc s.σ s'.σ → s.D = s'.D → Fits C.N s' a → Fits C.N s a := fun s s' a hi hd hf => ⟨hf.size, hf.defers.trans hd.symm, fun i v hv => hf.slot i v (hi i v hv)⟩
 induction n with
 | zero => intro l s s' _ hi hL hD h; exact ⟨h.1, fun a w hf hs => h.2 a w (fit s s' a hi hD hf) (hL w hs)⟩
 | succ n ih =>
  intro l s s' hA hi hL hD h
  refine ⟨fun h0 a w hf hs => h.1 h0 a w (fit s s' a hi hD hf) (hL w hs), fun j hj o ho a w hf hs => ?_⟩
  have h1 := h.2 j hj o ho a w (fit s s' a hi hD hf) (hL w hs)
  refine ⟨fun hw => Fin.mono (fun v L' hk => ?_) (h1.1 hw), fun hw => ?_⟩
  · exact ⟨hk.1, ih _ ⟨put C.N o.dst v s.σ, L', s.D⟩ ⟨put C.N o.dst v s'.σ, L', s'.D⟩ (hk.1 rfl) (hi.put _ _ _) (fun _ h => h) hD hk.2⟩
  · exact ⟨fun _ => hA, ih _ ⟨put C.N o.dst undef s.σ, s.L, s.D⟩ ⟨put C.N o.dst undef s'.σ, s'.L, s'.D⟩ hA (hi.put _ _ _) hL hD (h1.2 hw).2⟩
structure GR (C : Cx) (ops : Array Oper) (L0 : List Ent) (K : Sy → Prop) (T : Nat → Array Bool → Sy → Prop) : Prop where
 fin : ∀ m l s, Region.ready .any ops l = [] → K s → T m l s
 one : ∀ m l s i, Region.ready .any ops l = [i] → Sub L0 s.L → dn C ops L0 [] i (T m (l.setIfInBounds i true)) s → T (m + 1) l s
 two : ∀ m l s i j, Region.ready .any ops l = [i, j] → Sub L0 s.L → dn C ops L0 [] i (T m (l.setIfInBounds i true)) s → dn C ops L0 [] j (T m (l.setIfInBounds j true)) s → T (m + 1) l s
 three : ∀ m l s i j k, Region.ready .any ops l = [i, j, k] → Sub L0 s.L → dn C ops L0 [] i (T m (l.setIfInBounds i true)) s → dn C ops L0 [] j (T m (l.setIfInBounds j true)) s → dn C ops L0 [] k (T m (l.setIfInBounds k true)) s → T (m + 1) l s
 four : ∀ m l s i j k q, Region.ready .any ops l = [i, j, k, q] → Sub L0 s.L → dn C ops L0 [] i (T m (l.setIfInBounds i true)) s → dn C ops L0 [] j (T m (l.setIfInBounds j true)) s → dn C ops L0 [] k (T m (l.setIfInBounds k true)) s → dn C ops L0 [] q (T m (l.setIfInBounds q true)) s → T (m + 1) l s
 mono : ∀ m l s s', Sub L0 s'.L → leF s.σ s'.σ → (∃ L', s.L.Perm L' ∧ Sub L' s'.L) → s.D = s'.D → T m l s → T m l s'
theorem GR.go {K : Sy → Prop} {T : Nat → Array Bool → Sy → Prop} (g : GR C ops L0 K T) {m : Nat} {l : Array Bool} {s s' : Sy} (h : T m l s) (hs : Sub L0 s'.L) (hle : leF s.σ s'.σ) (hp : ∃ L', s.L.Perm L' ∧ Sub L' s'.L) (hd : s.D = s'.D) : T m l s' := g.mono m l s s' hs hle hp hd h
theorem gr_dG (hT : TabOk C.P C.T) (K : Sy → Prop) : GR C ops L0 K (dG C ops L0 [] (Q9 C K)) := by
 have step : ∀ (n : Nat) (l : Array Bool) (s : Sy) (i : Nat), Sub L0 s.L → dn C ops L0 [] i (dG C ops L0 [] (Q9 C K) n (l.setIfInBounds i true)) s → ∀ o, ops[i]? = some o → ∀ a w, Fits C.N s a → St C.M C.B w s.L →
  StepG C ops o a w s.L fun u L' => (Qo i [] = false → Sub L0 L') ∧ dG C ops L0 [] (Q9 C K) n (l.setIfInBounds i true) ⟨put C.N o.dst u s.σ, L', s.D⟩ :=
  fun n l s i hi h => dn_ok hT h (fun s' _ h => h) (.inl hi)
 refine ⟨fun m l s h0 hk => ?_, fun m l s i hr hs h => ?_, fun m l s i j hr hs h1 h2 => ?_, fun m l s i j k hr hs h1 h2 h3 => ?_, fun m l s i j k q0 hr hs h1 h2 h3 h4 => ?_, fun m l s s' hA hle ⟨L', hp, hs⟩ hD h => dG_mono m l s s' hA (leF_get hle) (fun w hw => (hw.sub hs).perm hp) hD h⟩
 · cases m with
   | zero => exact ⟨h0, fun a w hf hs => ⟨s, hf, hs, hk⟩⟩
   | succ n => exact ⟨fun _ a w hf hs => ⟨s, hf, hs, hk⟩, fun j hj => by rw [h0] at hj; cases hj⟩
 · refine ⟨fun h0 => (by rw [hr] at h0; cases h0), fun q hq => ?_⟩
   rw [hr] at hq
   obtain rfl : q = i := by simpa using hq
   exact step m l s q hs h
 · refine ⟨fun h0 => (by rw [hr] at h0; cases h0), fun q hq => ?_⟩
   rw [hr] at hq
   have : q = i ∨ q = j := by simpa using hq
   rcases this with rfl | rfl
   · exact step m l s q hs h1
   · exact step m l s q hs h2
 · refine ⟨fun h0 => (by rw [hr] at h0; cases h0), fun q hq => ?_⟩
   rw [hr] at hq
   have : q = i ∨ q = j ∨ q = k := by simpa using hq
   rcases this with rfl | rfl | rfl
   · exact step m l s q hs h1
   · exact step m l s q hs h2
   · exact step m l s q hs h3
 · refine ⟨fun h0 => (by rw [hr] at h0; cases h0), fun q hq => ?_⟩
   rw [hr] at hq
   have : q = i ∨ q = j ∨ q = k ∨ q = q0 := by simpa using hq
   rcases this with rfl | rfl | rfl | rfl
   · exact step m l s q hs h1
   · exact step m l s q hs h2
   · exact step m l s q hs h3
   · exact step m l s q hs h4
def odT : List Nat → Od
 | [] => .nil
 | i :: l => .t i (odT l)
def lst (l : Array Bool) : List Nat → Array Bool
 | [] => l
 | i :: ts => lst (l.setIfInBounds i true) ts
def tsOk (ops : Array Oper) : List Nat → Array Bool → Bool
 | [], _ => true
 | i :: ts, l => tOk ops [] l i && tsOk ops ts (l.setIfInBounds i true)
theorem dx_ts (hT : TabOk C.P C.T) (hsel : Region.noSelect ops = true) {K : Sy → Prop} (ts : List Nat) : ∀ (n : Nat) (l : Array Bool) (s : Sy), Shut ops l → tsOk ops ts l = true → Sub L0 s.L →
 dx C ops L0 [] (odT ts) (dG C ops L0 [] (Q9 C K) n (lst l ts)) s → dG C ops L0 [] (Q9 C K) (n + ts.length) l s := by
 induction ts with
 | nil => intro n l s _ _ _ h; exact h
 | cons i ts ih =>
  intro n l s hsh hok hsb h
  simp only [tsOk, Bool.and_eq_true] at hok
  obtain ⟨hk, hr⟩ := hok
  simp only [tOk, Bool.and_eq_true, Bool.not_eq_true'] at hk
  obtain ⟨⟨⟨k1, k2⟩, k3⟩, k4⟩ := hk
  obtain ⟨σ, L, D⟩ := s
  change dt C ops L0 i (dx C ops L0 [] (odT ts) (dG C ops L0 [] (Q9 C K) n (lst (l.setIfInBounds i true) ts))) ⟨σ, L, D⟩ at h
  simp only [dt, opAt, qbI] at h
  split at h
  · rename_i o ho
    have hf' : ∀ j, Qo j [] = true → (ops[j]?).isSome = true → Dep ops i j := fun j hj hs => qew (allN_mem k4 hj) hs
    have hrd : i ∈ Region.ready .any ops l := by simpa using k2
    obtain ⟨b, hp, hq, hb⟩ := gd_ok (C := C) (s := ⟨σ, L, D⟩) h
    rw [List.length_cons, ← Nat.add_assoc]
    cases b with
    | false => exact qa8 (v := undef) ho hsel k3 hf' _ l _ hsh (Region.free_spec ho k1) hrd hsb (fun a ha => .inr ⟨hb a ha, rfl⟩) (ih n _ _ (hsh.next hrd) hr hsb (hq rfl))
    | true =>
     have key : ∃ v, dx C ops L0 [] (odT ts) (dG C ops L0 [] (Q9 C K) n (lst (l.setIfInBounds i true) ts)) ⟨put C.N o.dst v σ, L, D⟩ ∧ ∀ a, Fits C.N ⟨σ, L, D⟩ a → ∀ w, St C.M C.B w L0 → FinT C v w ((execOp a.eval o).run C.P w) := by
      obtain ⟨v, hv, hr'⟩ := tkV_ok hT (qcE σ) (hp rfl)
      refine ⟨v, hv, fun a ha w hs => ?_⟩
      rw [execOp_congr o (fun cs b => Region.noSelect_spec hsel i o cs b ho) (fun x hx => qef ha (qcb (hp rfl) x hx))]
      exact hr' w hs
     obtain ⟨v, hv, hr'⟩ := key
     exact qa8 (v := v) ho hsel k3 hf' _ l _ hsh (Region.free_spec ho k1) hrd hsb (fun a ha => .inl ⟨hb a ha, hr' a ha⟩) (ih n _ _ (hsh.next hrd) hr hsb hv)
  · exact h.elim
theorem drg (L0 : List Ent) (ts : List Nat) (m : Nat) (hT : TabOk C.P C.T) {id : Nat} {K : Exit → Sy → Prop} {s : Sy} (hm : C.P.follows .mixedOrders = true) (hn : m + ts.length = ops.size)
 (hok : (Region.noSelect ops && tsOk ops ts (Array.replicate ops.size false)) = true) (hL : Sub L0 s.L)
 (h : ∀ T : Nat → Array Bool → Sy → Prop, GR C ops L0 (K .normal) T → dx C ops L0 [] (odT ts) (T m (lst (Array.replicate ops.size false) ts)) s) : qb8 C id ops K s := by
 simp only [Bool.and_eq_true] at hok
 obtain ⟨h1, h3⟩ := hok
 refine ⟨fun n a w hf hs => ?_⟩
 have hsh : Shut ops (Array.replicate ops.size false) := by
  intro j o ho hj
  have hlt : j < ops.size := (Array.getElem?_eq_some_iff.1 ho).1
  simp [hlt] at hj
 have h4 := dx_ts hT h1 ts m (Array.replicate ops.size false) s hsh h3 hL (h _ (gr_dG hT (K .normal)))
 rw [hn] at h4
 exact wpIn_region_any hm (dG_any (Q' := Qof C K) (fun a w hq => hq) _ _ _ h4 a _ hf hs.drew)
theorem Zz {α : Type} (X1 : List α) (e : α) (X2 : List α) : (X1 ++ e :: X2).Perm (X1 ++ X2 ++ [e]) := by
 rw [List.append_assoc]
 exact (List.perm_append_comm (l₁ := [e]) (l₂ := X2)).append_left X1
end
end Go.Sx
namespace Go.Proofs.YtbgefoamhdgnaaaGreatDoor
section
open Go.RowKit Go.Lib Go.Sx
theorem qY (kd : IntKind) (k : Nat) (f : Nat → Int) (i : Nat) (h : i < k) : (row kd k f)[nad 0 (nmu (Int.toNat (i : Int)) 1)]? = some (.int kd (f i)) := by
 rw [qi, qh, Nat.zero_add, Nat.mul_one, Int.toNat_natCast]; exact qP _ _ _ _ h
theorem zz (kd : IntKind) (k : Nat) (f g : Nat → Int) (i : Nat) (x : Int) (hg : g = upd f i x) : (row kd k f).setIfInBounds (nad 0 (nmu (Int.toNat (i : Int)) 1)) (.int kd x) = row kd k g := by
 rw [qi, qh, Nat.zero_add, Nat.mul_one, Int.toNat_natCast, hg]; exact zS _ _ _ _ _
theorem QV (kd : IntKind) (k : Nat) (f : Nat → Int) (i : Nat) (h : i < k) : nad 0 (nmu (Int.toNat (i : Int)) 1) < (row kd k f).size := by
 rw [qi, qh, Nat.zero_add, Nat.mul_one, Int.toNat_natCast, qR]; exact h
theorem Zw (kd : IntKind) (k : Nat) (f : Nat → Int) : (row kd k f).toList.all (·.oneCell') = true := by unfold row; exact List.all_eq_true.2 fun v hv => Zv _ _ _ v hv
def mix (B m n k : Nat) : Nat → Int := fun j => if j < k then dg B m j else dg B n j
theorem mix_at (B m n k : Nat) : mix B m n k k = dg B n k := by unfold mix; rw [if_neg (by omega)]
theorem qcs (kd : IntKind) (K B m n k : Nat) (h : k < K) : (row kd K (mix B m n k))[nad 0 (nmu (Int.toNat (k : Int)) 1)]? = some (.int kd (dg B n k)) := by
 rw [← mix_at B m n k]; exact qY _ _ _ _ h
theorem qaL (kd : IntKind) (K B m n k : Nat) (x : Int) (h : x = dg B m k) : (row kd K (mix B m n k)).setIfInBounds (nad 0 (nmu (Int.toNat (k : Int)) 1)) (.int kd x) = row kd K (mix B m n (k + 1)) := by
 refine zz _ _ _ _ _ _ ?_
 funext j
 unfold upd mix
 by_cases e : j = k
 · rw [if_pos e, if_pos (by omega), h, e]
 · rw [if_neg e]
   by_cases e2 : j < k
   · rw [if_pos e2, if_pos (by omega)]
   · rw [if_neg e2, if_neg (by omega)]
theorem qdX (kd : IntKind) (K B m n : Nat) : row kd K (dg B n) = row kd K (mix B m n 0) := Qb _ _ _ _ (fun j hj => by unfold mix; rw [if_neg (by omega)])
theorem qdW (kd : IntKind) (K B m n : Nat) : row kd K (mix B m n K) = row kd K (dg B m) := Qb _ _ _ _ (fun j hj => by unfold mix; rw [if_pos hj])
theorem dgn (B n k : Nat) : dg B n k = ((n / B ^ k % B : Nat) : Int) := rfl
theorem z6 (k : IntKind) (x y : Int) : Qz .and k x y = bits .and k x y := rfl
theorem bitB_or (k : IntKind) (x y : Int) : Qz .or k x y = bits .or k x y := rfl
theorem shrB (a n b : Nat) (hn : n ≤ b) : (a : Int).fdiv (2 ^ (min ((n : Nat) : Int).toNat b)) = ((a / 2 ^ n : Nat) : Int) := by
 rw [Int.toNat_natCast, Nat.min_eq_left hn, Int.fdiv_eq_ediv_of_nonneg _ (by exact Int.le_of_lt (Int.pow_pos (by decide)))]
 norm_cast
theorem shlB (a n b : Nat) (hn : n ≤ b) : (a : Int) * 2 ^ (min ((n : Nat) : Int).toNat b) = ((a * 2 ^ n : Nat) : Int) := by
 rw [Int.toNat_natCast, Nat.min_eq_left hn]
 norm_cast
end
section
open Go.RowKit Go.Lib Go.Sx
def L0 : Nat := 7237005577332262213973186563042994240857116359379907606001950938285454250989
def r17 (n : Nat) : Array Value := row .u32 17 (dg 65536 n)
theorem qbF (n : Nat) : (r17 n).size = 17 := qR _ _ _
theorem bd92 : Tryz.prog.built 236 [(0, .int .u32 54253), (1, .int .u32 23797), (2, .int .u32 25370), (3, .int .u32 22546), (4, .int .u32 40150), (5, .int .u32 41719), (6, .int .u32 63966), (7, .int .u32 5342), (15, .int .u32 4096)] = some (r17 L0) := by kernel_rfl
theorem qeP (w : World) : Calls Tryz.prog 214 ([] : List Value).toArray w fun e w' => e = .returned (.agg (r17 L0)) ∧ Below w.heap.size w w' := by
 refine qj qc Tryz.func214 rfl Tryz.ntmps214 rfl (St.start w) ?_
 intro b0
 refine bu bd92 ?_
 refine sN 0 rfl (by rw [qbF]; rfl) (Zw _ _ _) ?_ (by kernel_rfl)
 refine ldN 0 rfl (qbF _) ?_
 exact rt rfl
theorem cmp_any (a b : Int) (ha : 0 ≤ a) (ha2 : a < 65536) (hb : 0 ≤ b) (hb2 : b < 65536) (w : World) : Calls Tryz.prog 218 ([.int .u32 a, .int .u32 b] : List Value).toArray w fun e w' => e = .returned (.int .i64 (a - b)) ∧ Below w.heap.size w w' := by
 refine qj qc Tryz.func218 rfl Tryz.ntmps218 rfl (St.start w) ?_
 refine .same (by simp only [mn]; omega) (by simp only [mx]; omega) ?_
 refine .same (by simp only [mn]; omega) (by simp only [mx]; omega) ?_
 refine .same (by simp only [mn]; omega) (by simp only [mx]; omega) ?_
 exact rt rfl
def Figs (w : World) (b len : Nat) (g : Nat → Int) : Prop := b < w.heap.size ∧ ∀ j, j < len → w.cell? ⟨b, j, none⟩ = some (.int .u32 (g j))
def CmpZ (N : Nat) (A B : Nat → Int) (z : Int) : Prop := (∃ i, i < N ∧ (∀ j, j < i → A j = B j) ∧ A i ≠ B i ∧ z = A i - B i) ∨ ((∀ j, j < N → A j = B j) ∧ z = 0)
theorem Figs.ld {w : World} {b len : Nat} {g : Nat → Int} (h : Figs w b len g) (j : Nat) (hj : j < len) : w.cell? ⟨b, nad 0 (nmu (Int.toNat ((j : Nat) : Int)) 1), none⟩ = some (.int .u32 (g j)) := by
 rw [qi, qh, Nat.zero_add, Nat.mul_one, Int.toNat_natCast]; exact h.2 j hj
theorem cmpf_any (b1 b2 N c1 c2 : Nat) (A B : Nat → Int) (hN : N ≤ 1000) (hA : ∀ j, 0 ≤ A j ∧ A j < 65536) (hB : ∀ j, 0 ≤ B j ∧ B j < 65536) (w : World) (f1 : Figs w b1 N A) (f2 : Figs w b2 N B) :
 Calls Tryz.prog 215 ([.slice (some ⟨b1, 0, none⟩) N c1, .slice (some ⟨b2, 0, none⟩) N c2, .func (.func 218) #[] #[]] : List Value).toArray w fun e w' => ∃ z, CmpZ N A B z ∧ e = .returned (.int .i64 z) ∧ Below w.heap.size w w' := by
 refine (enter (vs := [.slice (some ⟨b1, 0, none⟩) N c1, .slice (some ⟨b2, 0, none⟩) N c2, .func (.func 218) #[] #[]]) (R := fun v w' => ∃ z, CmpZ N A B z ∧ v = .int .i64 z ∧ Below w.heap.size w w') qc Tryz.func215 rfl Tryz.ntmps215 rfl (St.start w) ?_).mono (fun e w' ⟨v, he, z, h1, h2, h3⟩ => ⟨z, h1, by rw [he, h2], h3⟩)
 refine lp qc (fun k : Nat => k ≤ N ∧ ∀ j, j < k → A j = B j) (fun k => ⟨[(0, .slice (some ⟨b1, 0, none⟩) N c1), (1, .slice (some ⟨b2, 0, none⟩) N c2), (2, .func (.func 218) #[] #[]), (11, .slice (some ⟨b1, 0, none⟩) N c1), (12, .int .i64 (N : Int)), (13, .int .i64 (k : Int))], [], []⟩) (fun k => N - k) 0 ⟨Nat.zero_le _, fun j hj => by omega⟩ ⟨⟨rfl, rfl, rfl, rfl, rfl, rfl, trivial⟩, .nil, rfl⟩ ?_
 rintro k ⟨hk, he⟩
 refine cd (fun h => ?_) (fun h => ?_)
 · have hlt : k < N := by omega
   refine ⟨by omega, by omega, ?_⟩
   refine ldo (f1.ld k hlt) f1.1 ?_
   refine cf (decide_eq_false (by omega)) ?_
   refine ⟨by omega, by omega, ?_⟩
   refine ldo (f2.ld k hlt) f2.1 ?_
   refine cv (fun w => cmp_any (A k) (B k) (hA k).1 (hA k).2 (hB k).1 (hB k).2 w) ?_
   refine cne (fun hne => ?_) (fun heq => ?_)
   · exact ⟨fun w1 hs => ⟨A k - B k, .inl ⟨k, hlt, he, fun e => hne (by rw [e, Int.sub_self]), rfl⟩, rfl, hs.below⟩⟩
   · refine .as ((k + 1 : Nat) : Int) (by push_cast; rfl) (by simp only [mn]; omega) (by simp only [mx]; omega) ?_
     refine ⟨k + 1, ⟨hlt, fun j hj => ?_⟩, by omega, ⟨⟨rfl, rfl, rfl, rfl, rfl, rfl, trivial⟩, .nil, rfl⟩⟩
     by_cases e : j = k
     · rw [e]; omega
     · exact he j (by omega)
 · obtain rfl : k = N := by omega
   refine cf (decide_eq_false (by omega)) ?_
   exact ⟨fun w1 hs => ⟨0, .inr ⟨he, rfl⟩, rfl, hs.below⟩⟩
end
section
open Go.RowKit Go.Lib Go.Sx
theorem dg_nat (B n i : Nat) : dg B n i = ((n / B ^ i % B : Nat) : Int) := rfl
theorem dbl_step (m n k c v x : Nat) (h : m / 65536 ^ k = 2 * (n / 65536 ^ k) + c) (hc : c < 2) (hx : n / 65536 ^ k % 65536 = x) (hv : v = 2 * x + c) :
 m / 65536 ^ k % 65536 = v % 65536 ∧ m / 65536 ^ (k + 1) = 2 * (n / 65536 ^ (k + 1)) + v / 65536 ∧ v / 65536 < 2 := by
 rw [Nat.pow_succ, ← Nat.div_div_eq_div_mul, ← Nat.div_div_eq_div_mul]
 omega
theorem sub_rest (d n l k c x y : Nat) (h : n / 65536 ^ k = d / 65536 ^ k + l / 65536 ^ k + c) (hc : c < 2) (hx : n / 65536 ^ k % 65536 = x) (hy : l / 65536 ^ k % 65536 = y) :
 (d / 65536 ^ k % 65536 = (x + 4294967296 - y - c) % 4294967296 % 65536) ∧ n / 65536 ^ (k + 1) = d / 65536 ^ (k + 1) + l / 65536 ^ (k + 1) + (x + 4294967296 - y - c) % 4294967296 / 2147483648 ∧ (x + 4294967296 - y - c) % 4294967296 / 2147483648 < 2 := by
 rw [Nat.pow_succ, ← Nat.div_div_eq_div_mul, ← Nat.div_div_eq_div_mul, ← Nat.div_div_eq_div_mul]
 generalize n / 65536 ^ k = N at *
 generalize d / 65536 ^ k = D at *
 generalize l / 65536 ^ k = L at *
 omega
theorem cmpz_le (n l N : Nat) (hn : n < 65536 ^ N) (hl : l < 65536 ^ N) (z : Int) (h : CmpZ N (fun k => dg 65536 n (N - 1 - k)) (fun k => dg 65536 l (N - 1 - k)) z) : decide (0 ≤ z) = decide (l ≤ n) := by
 have key : ∀ i, i ≤ N → (∀ j, j < i → n / 65536 ^ (N - 1 - j) % 65536 = l / 65536 ^ (N - 1 - j) % 65536) → n / 65536 ^ (N - i) = l / 65536 ^ (N - i) := by
  intro i
  induction i with
  | zero => intro _ _; rw [Nat.sub_zero, Nat.div_eq_of_lt hn, Nat.div_eq_of_lt hl]
  | succ i ih =>
   intro hi hj
   have h1 := ih (by omega) (fun j hj' => hj j (by omega))
   have h2 := hj i (by omega)
   rw [show N - 1 - i = N - (i + 1) by omega] at h2
   rw [show N - i = N - (i + 1) + 1 by omega, Nat.pow_succ, ← Nat.div_div_eq_div_mul, ← Nat.div_div_eq_div_mul] at h1
   omega
 have inj : ∀ k, dg 65536 n k = dg 65536 l k → n / 65536 ^ k % 65536 = l / 65536 ^ k % 65536 := fun k h => by unfold dg at h; omega
 rcases h with ⟨i, hi, he, hne, hz⟩ | ⟨he, hz⟩
 · have hk := key i (by omega) (fun j hj => inj _ (he j hj))
   have hne2 : n / 65536 ^ (N - 1 - i) % 65536 ≠ l / 65536 ^ (N - 1 - i) % 65536 := fun e => hne (by show dg _ _ _ = dg _ _ _; unfold dg; rw [e])
   have hz2 : z = ((n / 65536 ^ (N - 1 - i) % 65536 : Nat) : Int) - ((l / 65536 ^ (N - 1 - i) % 65536 : Nat) : Int) := hz
   rw [show N - i = N - 1 - i + 1 by omega, Nat.pow_succ, ← Nat.div_div_eq_div_mul, ← Nat.div_div_eq_div_mul] at hk
   generalize hp : 65536 ^ (N - 1 - i) = p at *
   have hp0 : 0 < p := by rw [← hp]; exact Nat.pow_pos (by decide)
   by_cases h0 : l ≤ n
   · have h3 : l / p ≤ n / p := Nat.div_le_div_right h0
     rw [decide_eq_true h0, decide_eq_true (by omega)]
   · have h3 : n / p ≤ l / p := Nat.div_le_div_right (by omega)
     rw [decide_eq_false h0, decide_eq_false (by omega)]
 · have hk := key N (Nat.le_refl _) (fun j hj => inj _ (he j hj))
   rw [Nat.sub_self, Nat.pow_zero, Nat.div_one, Nat.div_one] at hk
   rw [hz, hk, decide_eq_true (Nat.le_refl _)]; rfl
theorem dg65 (n j : Nat) : 0 ≤ dg 65536 n j ∧ dg 65536 n j < 65536 := by unfold dg; omega
theorem L0_17 : L0 < 65536 ^ 17 := by decide +kernel
theorem own_figs {M : Bks} {B w : World} {L : List Ent} (hs : St M B w L) {k n : Nat} {r : Sx.Own} {f : Nat → Int} (hk : L[k]? = some (se r (Qc .u32 (n + 1) f) 127)) (hR : Rw 1 (n + 1) r (Qc .u32 (n + 1) f)) : ∃ b c, sv r (n + 1) = .slice (some ⟨b, 0, none⟩) (n + 1) c ∧ Figs w b (n + 1) f := by
 rcases r with _ | ⟨b, c, j⟩
 · exact absurd hR.2 (by simp)
 · refine ⟨b, c, rfl, hs.lt (List.mem_of_getElem? hk) rfl, fun i hi => ?_⟩
   have hc := hs.cell (k := k) (b := b) (c := (Qc .u32 (n + 1) f ++ j).toArray) (t := 127) (fz := (0, 0)) (ro := false) hk i
   rw [hc, List.getElem?_toArray, List.getElem?_append_left (by rw [zy]; exact hi)]
   simp [Qc, hi]
theorem qcX (R n : Nat) (hn : n < 65536 ^ 17) (w : World) (hR : w.heap[R]? = some (.cells (r17 n) 237 (0, 0))) :
 Calls Tryz.prog 163 ([ptr R] : List Value).toArray w fun e w' => e = .returned (.bool (decide (L0 ≤ n))) ∧ Below w.heap.size w w' := by
 have hg : ∀ (m : Nat) {M : Bks} {B w : World} {L : List Ent}, St M B w L → ∀ (k b : Nat) (t : TypeId) (ro : Bool), L[k]? = some ⟨b, some (.cells (r17 m) t (0, 0)), ro, none⟩ → b < w.heap.size ∧ ∀ j, j < 17 → w.cell? ⟨b, j, none⟩ = some (.int .u32 (dg 65536 m j)) := fun m _ _ _ _ hs k b t ro hk =>
  ⟨hs.lt (List.mem_of_getElem? hk) rfl, fun j hj => by rw [hs.cell hk j]; exact qP _ _ _ _ hj⟩
 refine qj qc Tryz.func163 rfl Tryz.ntmps163 rfl (St.reads1 hR) ?_
 refine cv qeP ?_
 intro b3
 refine sN 1 rfl (by rw [qbF]; rfl) (Zw _ _ _) ?_ (by kernel_rfl)
 refine dr _ 10 (.t 0 (.t 1 (.t 2 (.t 5 (.n 3 (.n 4 (.n 6 (.n 7 (.n 8 (.t 9 (.n 10 .nil))))))))))) qc qe (by kernel_rfl) (.refl _) ?_
 refine ⟨.mk 0 17 17 rfl rfl rfl (by decide) (by decide) (by decide) (by simp) (.on (by decide) ?_)⟩
 refine ⟨.mk 0 17 17 rfl rfl rfl (by decide) (by decide) (by decide) (by simp) (.on (by decide) ?_)⟩
 refine inl qc Tryz.func217 rfl Tryz.ntmps217 rfl ?_
 intro bs1
 refine bk ?_
 refine ⟨qk _, ?_⟩
 refine co (n := 17) (z := 1) (xs := Qc .u32 17 (bkg 17 (dg 65536 n))) (e := 127) (fun w hs => qcW bs1 R 17 17 (dg 65536 n) (by decide) w ⟨hs.nth (k := 2) rfl, hg n hs 0 _ _ _ rfl⟩) (fun r1 hr1 => ?_)
 refine ⟨.cons (.cons (.drop .nil)), ?_⟩
 refine inl qc Tryz.func217 rfl Tryz.ntmps217 rfl ?_
 intro bs2
 refine bk ?_
 refine ⟨.cons (.cons (.drop .nil)), ?_⟩
 refine co (n := 17) (z := 1) (xs := Qc .u32 17 (bkg 17 (dg 65536 L0))) (e := 127) (fun w hs => qcW bs2 b3 17 17 (dg 65536 L0) (by decide) w ⟨hs.nth (k := 4) rfl, hg L0 hs 1 _ _ _ rfl⟩) (fun r2 hr2 => ?_)
 refine ⟨.cons (.cons (.drop .nil)), ?_⟩
 refine ce (Φ := CmpZ 17 (bkg 17 (dg 65536 n)) (bkg 17 (dg 65536 L0))) (v := fun z => .int .i64 z) (fun w hs => ?_) (fun z hz => ?_)
 · obtain ⟨B1, c1, e1, g1⟩ := own_figs hs (k := 3) rfl hr1
   obtain ⟨B2, c2, e2, g2⟩ := own_figs hs (k := 5) rfl hr2
   rw [e1, e2]
   exact cmpf_any B1 B2 17 c1 c2 _ _ (by decide) (fun j => dg65 _ _) (fun j => dg65 _ _) w g1 g2
 refine ⟨.cons (.cons (.drop (.drop (.drop (.drop .nil))))), ?_⟩
 refine rt ?_
 rw [← cmpz_le n L0 17 hn L0_17 z hz]
 rfl
end
end Go.Proofs.YtbgefoamhdgnaaaGreatDoor
namespace Go.Sx
section
open Go Go.RowKit
structure Upd (b : Nat) (c : Array Value) (t : TypeId) (w w' : World) : Prop where
 os : w'.os = w.os
 tape : w'.tape = w.tape
 output : w'.output = w.output
 size : w.heap.size ≤ w'.heap.size
 old : ∀ k, k < w.heap.size → k ≠ b → w'.heap[k]? = w.heap[k]?
 ok : w'.heap[b]? = some (.cells c t (0, 0))
theorem St.onlyU {w : World} {b : Nat} {c : Array Value} {t : TypeId} (h : w.heap[b]? = some (.cells c t (0, 0))) : St [bl b] w w [cl b c t] :=
 St.from w _ _ (fun e he => by
  obtain rfl : e = cl b c t := by simpa using he
  exact ⟨by simpa using h, fun k hk => by simp at hk; simp [hk]⟩) (by simp)
theorem St.updU {w w' : World} {b : Nat} {c : Array Value} {t : TypeId} {L : List Ent} (h : St [bl b] w w' (cl b c t :: L)) : Upd b c t w w' :=
 ⟨h.os, h.tape, h.output, h.size, fun k hk hn => h.old k hk (by simpa using hn), h.nth (k := 0) rfl⟩
variable {C : Cx} {L : List Ent}
theorem cU1 (k : Nat) {g : FuncId} {vs : List Value} {v : Value} {b : Nat} {c0 c : Array Value} {t : TypeId} {next : Value → List Ent → Prop} (hk : L[k]? = some (cl b c0 t))
 (h : ∀ w, w.heap[b]? = some (.cells c0 t (0, 0)) → Calls C.P g vs.toArray w fun e w' => e = .returned v ∧ Upd b c t w w') (go : next v (L.set k (cl b c t))) : zJ C g vs L next :=
 ⟨fun w hs => (h w (hs.nth hk)).mono fun e w' ⟨he, hu⟩ => ⟨_, _, he, hs.set hk hu.size hu.ok hu.old hu.os hu.tape hu.output, go⟩⟩
theorem enterU {P : Program} {T : Tab} (hT : TabOk P T) {g : FuncId} {fn : Func} {cd : Code} (hf : P.funcs[g]? = some fn) (hb : fn.body = some cd) {N : Nat} (hN : fn.ntmps = N) {vs : List Value} (hle : Nat.ble vs.length N = true) {w : World} {b : Nat} {c0 c : Array Value} {t : TypeId} {v : Value}
 (hw : w.heap[b]? = some (.cells c0 t (0, 0))) (h : cx ⟨P, T, N, [bl b], w, none⟩ cd (retK ⟨P, T, N, [bl b], w, none⟩ fn fun u w' => u = v ∧ Upd b c t w w') ⟨par 0 vs, [cl b c0 t], []⟩) : Calls P g vs.toArray w fun e w' => e = .returned v ∧ Upd b c t w w' :=
 (enter hT hf hb hN hle (St.onlyU hw) h).mono fun e w' ⟨u, he, hu, h2⟩ => ⟨by rw [he, hu], h2⟩
theorem rtU {P : Program} {T : Tab} {N : Nat} {w : World} {b : Nat} {c : Array Value} {t : TypeId} {v0 v : Value} {L : List Ent} (hv : v = v0) : RetP ⟨P, T, N, [bl b], w, none⟩ (fun u w' => u = v0 ∧ Upd b c t w w') v (cl b c t :: L) := ⟨fun w' hs => ⟨hv, hs.updU⟩⟩
end
end Go.Sx
namespace Go.Proofs.YtbgefoamhdgnaaaGreatDoor
section
open Go.RowKit Go.Lib
section
variable {P : Program} (w : World)
def eqr (n : Nat) (f g : Nat → Int) : Bool := (List.range n).all fun i => f i == g i
theorem qaA (d : Nat) (t e : TypeId) (n : Nat) (kd : IntKind) (ht : P.underlying t = some (.array n e)) (he : P.underlying e = some (.int kd)) (hsz : ∀ w, (sizeOf e).run P w = .ok 1 w) (f g : Nat → Int) :
 (Op.equalIn (d + 2) t (.agg (row kd n f)) (.agg (row kd n g))).run P w = .ok (eqr n f g) w := by
 unfold eqr
 rw [List.range_eq_range', Op.equalIn]
 simp only [Sem.run_bind, run_underlying ht, Result.andThen_ok, hsz, Std.Legacy.Range.forIn_eq_forIn_range', Std.Legacy.Range.size, Nat.sub_zero, Nat.add_sub_cancel, Nat.div_one]
 have hl : ∀ i ∈ List.range' 0 n 1, i < n := fun i hi => by simpa using (List.mem_range'_1.1 hi).2
 generalize List.range' 0 n 1 = l at hl ⊢
 induction l with
 | nil => simp
 | cons i l ih =>
  have hi : i < n := hl i (by simp)
  have px : ∀ h : Nat → Int, (part e (row kd n h) (i * 1)).run P w = .ok (.int kd (h i)) w := fun h => by
   have hg := qP kd n h i hi
   simp [part, isAgg, run_underlying he, hg]
  simp only [List.forIn_cons, Sem.run_bind, px, run_equalIn_int w d e kd kd _ _ he, Result.andThen_ok, List.all_cons]
  cases hb : (f i == g i)
  · simp
  · simp only [Bool.not_true, Bool.false_eq_true, if_false, Sem.run_pure, Result.andThen_ok, Bool.true_and]
    exact ih fun j hj => hl j (by simp [hj])
end
theorem eqr_dg (B n x y : Nat) (hx : x < B ^ n) (hy : y < B ^ n) : eqr n (dg B x) (dg B y) = decide (x = y) := by
 unfold eqr
 rw [Bool.eq_iff_iff]
 simp only [List.all_eq_true, List.mem_range, beq_iff_eq, decide_eq_true_eq]
 constructor
 · intro h
   have e1 := zj B x n
   have e2 := zj B y n
   rw [Nat.mod_eq_of_lt hx] at e1
   rw [Nat.mod_eq_of_lt hy] at e2
   rw [zm (B : Int) _ _ n h] at e1
   omega
 · rintro rfl i _; rfl
theorem sz_u8 (w : World) : (sizeOf 5).run Tryz.prog w = .ok 1 w := by kernel_rfl
theorem sz_u64 (w : World) : (sizeOf 131).run Tryz.prog w = .ok 1 w := by kernel_rfl
end
section
open Go.RowKit Go.Lib Go.Sx
theorem wu32 (n : Int) (h0 : 0 ≤ n) (h1 : n < 2 ^ 32) : IntKind.u32.wrap n = n := by rw [IntKind.wrap_u32]; omega
theorem or_bit (x c : Nat) (hx : x < 65536) (hc : c < 2) : bits .or .u32 ((x : Int) * 2) (c : Int) = ((2 * x + c : Nat) : Int) := by
 rw [bits_join .u32 32 (by decide) wu32 1 _ _ (by omega) (by omega) (by omega) (by omega) (by omega) (by omega)]
 omega
theorem and_16 (v : Nat) (hv : v < 4294967296) : bits .and .u32 (v : Int) 65535 = ((v % 65536 : Nat) : Int) := by
 have h := bits_mask .u32 32 (by decide) wu32 16 (by decide) (v : Int) (by omega) (by omega)
 rw [show ((2 : Int) ^ 16 - 1) = 65535 by decide] at h
 rw [h]; omega
theorem take_any (R n d : Nat) (hd : n = d + L0) (w : World) (hR : w.heap[R]? = some (.cells (r17 n) 237 (0, 0))) :
 Calls Tryz.prog 291 ([ptr R] : List Value).toArray w fun e w' => e = .returned (.tuple #[]) ∧ Upd R (r17 d) 237 w w' := by
 have hR' : w.heap[R]? = some (.cells (row .u32 17 (mix 65536 d n 0)) 237 (0, 0)) := by rw [← qdX]; exact hR
 refine enterU qc Tryz.func291 rfl Tryz.ntmps291 rfl hR' ?_
 refine cv qeP ?_
 refine lp qc (fun x : Nat × Nat => x.1 ≤ 17 ∧ x.2 < 2 ∧ n / 65536 ^ x.1 = d / 65536 ^ x.1 + L0 / 65536 ^ x.1 + x.2) (fun x => ⟨[(0, ptr R), (2, .int .u32 (x.2 : Int)), (6, .agg (r17 L0)), (7, .int .i64 (x.1 : Int))], [cl R (row .u32 17 (mix 65536 d n x.1)) 237], []⟩) (fun x => 17 - x.1) (0, 0) ⟨by omega, by omega, by simp only [Nat.pow_zero, Nat.div_one]; omega⟩ ⟨⟨rfl, rfl, rfl, rfl, trivial⟩, .refl _, rfl⟩ ?_
 rintro ⟨k, c⟩ ⟨hk, hc, hs⟩
 simp only at hk hc hs
 refine cd (fun hlt => ?_) (fun hge => ?_)
 · have hlt' : k < 17 := by (try simp only at hlt); omega
   obtain ⟨x, hx⟩ : ∃ x, n / 65536 ^ k % 65536 = x := ⟨_, rfl⟩
   obtain ⟨y, hy⟩ : ∃ y, L0 / 65536 ^ k % 65536 = y := ⟨_, rfl⟩
   obtain ⟨s1, s2, s3⟩ := sub_rest d n L0 k c x y hs hc hx hy
   obtain ⟨v, hv⟩ : ∃ v, v = (x + 4294967296 - y - c) % 4294967296 := ⟨_, rfl⟩
   rw [← hv] at s1 s2 s3
   refine ⟨by omega, by omega, .cell (.int .u32 (y : Int)) rfl (by rw [← hy]; exact qY .u32 17 (dg 65536 L0) k hlt') ?_⟩
   refine ⟨by omega, by omega, ?_⟩
   refine ld1 0 rfl (v := .int .u32 (x : Int)) (by rw [← hx]; exact qcs _ _ _ _ _ _ hlt') ?_
   refine .mod ?_
   refine .to (v : Int) (by show (((x : Int) - (y : Int)) % 4294967296 - (c : Int)) % 4294967296 = _; omega) ?_
   refine ⟨by decide, ?_⟩
   refine ⟨by omega, by omega, ?_⟩
   refine s1e 0 (row .u32 17 (mix 65536 d n (k + 1))) rfl (QV _ _ _ _ hlt') (by rw [z6, and_16 v (by omega)]; exact qaL _ _ _ _ _ _ _ (by rw [dgn, s1])) ?_
   refine .as ((k + 1 : Nat) : Int) (by (try push_cast); (try omega)) (by simp only [mn]; omega) (by simp only [mx]; omega) ?_
   exact ⟨(k + 1, v / 2147483648), ⟨by simp only; omega, s3, s2⟩, by simp only; omega, ⟨⟨rfl, congrArg (fun x => some (Value.int .u32 x)) (shrB v 31 32 (by decide)), rfl, rfl, trivial⟩, .refl _, rfl⟩⟩
 · obtain rfl : k = 17 := by (try simp only at hge); omega
   rw [qdW]
   exact rtU rfl
theorem or_bitI (x c : Nat) (hx : x < 65536) (hc : c < 2) : Qz .or .u32 ((2 * x : Nat) : Int) (c : Int) = ((2 * x + c : Nat) : Int) := by
 rw [bitB_or, ← or_bit x c hx hc]; congr 1; omega
theorem bit_any (R n b : Nat) (hn : n < L0) (hb : b < 2) (w : World) (hR : w.heap[R]? = some (.cells (r17 n) 237 (0, 0))) :
 Calls Tryz.prog 273 ([ptr R, .int .u32 (b : Int)] : List Value).toArray w fun e w' => e = .returned (.tuple #[]) ∧ Upd R (r17 ((2 * n + b) % L0)) 237 w w' := by
 obtain ⟨m, hm⟩ : ∃ m, m = 2 * n + b := ⟨_, rfl⟩
 have hlv : L0 = 7237005577332262213973186563042994240857116359379907606001950938285454250989 := rfl
 have hp17 : (65536 : Nat) ^ 17 = 7588550360256754183279148073529370729071901715047420004889892225542594864082845696 := by decide +kernel
 have hm17 : m < 65536 ^ 17 := by rw [hp17]; rw [hlv] at hn; omega
 have hm2 : m < L0 + L0 := by omega
 rw [← hm]
 have hR' : w.heap[R]? = some (.cells (row .u32 17 (mix 65536 m n 0)) 237 (0, 0)) := by rw [← qdX]; exact hR
 refine enterU qc Tryz.func273 rfl Tryz.ntmps273 rfl hR' ?_
 refine lp qc (fun x : Nat × Nat => x.1 ≤ 17 ∧ x.2 < 2 ∧ m / 65536 ^ x.1 = 2 * (n / 65536 ^ x.1) + x.2) (fun x => ⟨[(0, ptr R), (1, .int .u32 (x.2 : Int)), (6, .int .i64 (x.1 : Int))], [cl R (row .u32 17 (mix 65536 m n x.1)) 237], []⟩) (fun x => 17 - x.1) (0, b) ⟨by omega, hb, by simp only [Nat.pow_zero, Nat.div_one]; exact hm⟩ ⟨⟨rfl, rfl, rfl, trivial⟩, .refl _, rfl⟩ ?_
 rintro ⟨k, c⟩ ⟨hk, hc, hs⟩
 simp only at hk hc hs
 refine cd (fun hlt => ?_) (fun hge => ?_)
 · have hlt' : k < 17 := by (try simp only at hlt); omega
   obtain ⟨x, hx⟩ : ∃ x, n / 65536 ^ k % 65536 = x := ⟨_, rfl⟩
   obtain ⟨v, hv⟩ : ∃ v, v = 2 * x + c := ⟨_, rfl⟩
   obtain ⟨s1, s2, s3⟩ := dbl_step m n k c v x hs hc hx hv
   have lx : x < 65536 := by omega
   have hor := or_bitI x c lx hc
   rw [← hv] at hor
   refine ⟨by omega, by omega, ?_⟩
   refine ld1 0 rfl (v := .int .u32 (x : Int)) (by rw [← hx]; exact qcs _ _ _ _ _ _ hlt') ?_
   refine ⟨by decide, .as ((2 * x : Nat) : Int) ((shlB x 1 32 (by decide)).trans (by omega)) (by simp only [mn]; omega) (by simp only [mx]; omega) ?_⟩
   refine ⟨by decide, ?_⟩
   refine ⟨by omega, by omega, ?_⟩
   refine s1e 0 (row .u32 17 (mix 65536 m n (k + 1))) rfl (QV _ _ _ _ hlt') (by rw [hor, z6, and_16 v (by omega)]; exact qaL _ _ _ _ _ _ _ (by rw [dgn, s1])) ?_
   refine .as ((k + 1 : Nat) : Int) (by (try push_cast); (try omega)) (by simp only [mn]; omega) (by simp only [mx]; omega) ?_
   exact ⟨(k + 1, v / 65536), ⟨by simp only; omega, s3, s2⟩, by simp only; omega, ⟨⟨rfl, by show some (Value.int .u32 ((Qz .or .u32 ((2 * x : Nat) : Int) (c : Int)).fdiv (2 ^ (min (Int.toNat 16) 32)))) = _; rw [hor]; exact congrArg (fun x => some (Value.int .u32 x)) (shrB v 16 32 (by decide)), rfl, trivial⟩, .refl _, rfl⟩⟩
 · obtain rfl : k = 17 := by (try simp only at hge); omega
   rw [qdW]
   refine cvs (fun w hs => qcX R m hm17 w (hs.nth (k := 0) rfl)) ?_
   refine cd (fun hle => ?_) (fun hle => ?_)
   · obtain ⟨d, hd⟩ : ∃ d, m = d + L0 := ⟨m - L0, by omega⟩
     refine cU1 0 rfl (fun w hw => take_any R m d hd w hw) ?_
     rw [show m % L0 = d by rw [hd, Nat.add_mod_right, Nat.mod_eq_of_lt (by omega)]]
     exact rtU rfl
   · rw [Nat.mod_eq_of_lt (show m < L0 by omega)]
     exact rtU rfl
end
section
open Go.RowKit Go.Lib Go.Sx
def Byts (w : World) (a : Option Addr) (len n : Nat) : Prop := len = 0 ∨ ∃ b o, a = some ⟨b, o, none⟩ ∧ b < w.heap.size ∧ ∀ i, i < len → w.cell? ⟨b, o + i, none⟩ = some (.int .u8 (dg 256 n i))
def zu (n k : Nat) : Nat → Int := fun j => (if 2 * j < k then dg 256 n (2 * j) else 0) + (if 2 * j + 1 < k then 256 * dg 256 n (2 * j + 1) else 0)
theorem figsf_even (n j : Nat) : zu n (2 * j) j = 0 := by unfold zu; rw [if_neg (by omega), if_neg (by omega)]; rfl
theorem figsf_odd (n j : Nat) : zu n (2 * j + 1) j = dg 256 n (2 * j) := by unfold zu; rw [if_pos (by omega), if_neg (by omega)]; omega
theorem qd8 (n j : Nat) (x : Int) (hx : x = dg 256 n (2 * j)) : upd (zu n (2 * j)) j x = zu n (2 * j + 1) := by
 funext i
 unfold upd zu
 by_cases e : i = j
 · subst e; rw [if_pos rfl, if_pos (by omega), if_neg (by omega), hx]; omega
 · rw [if_neg e]
   congr 1
   · by_cases h : 2 * i < 2 * j
     · rw [if_pos h, if_pos (by omega)]
     · rw [if_neg h, if_neg (by omega)]
   · by_cases h : 2 * i + 1 < 2 * j
     · rw [if_pos h, if_pos (by omega)]
     · rw [if_neg h, if_neg (by omega)]
theorem qes (n j : Nat) (x : Int) (hx : x = dg 256 n (2 * j) + 256 * dg 256 n (2 * j + 1)) : upd (zu n (2 * j + 1)) j x = zu n (2 * j + 1 + 1) := by
 funext i
 unfold upd zu
 by_cases e : i = j
 · subst e; rw [if_pos rfl, if_pos (by omega), if_pos (by omega), hx]
 · rw [if_neg e]
   congr 1
   · by_cases h : 2 * i < 2 * j + 1
     · rw [if_pos h, if_pos (by omega)]
     · rw [if_neg h, if_neg (by omega)]
   · by_cases h : 2 * i + 1 < 2 * j + 1
     · rw [if_pos h, if_pos (by omega)]
     · rw [if_neg h, if_neg (by omega)]
theorem dg_two (n j : Nat) : dg 65536 n j = dg 256 n (2 * j) + 256 * dg 256 n (2 * j + 1) := by
 unfold dg
 rw [show (65536 : Nat) ^ j = 256 ^ (2 * j) by rw [Nat.pow_mul], show (256 : Nat) ^ (2 * j + 1) = 256 ^ (2 * j) * 256 from Nat.pow_succ _ _, ← Nat.div_div_eq_div_mul]
 omega
theorem figsf_all (n len : Nat) (hn : n < 256 ^ len) : row .u32 ((len + 1) / 2) (zu n len) = row .u32 ((len + 1) / 2) (dg 65536 n) := by
 refine Qb _ _ _ _ fun j hj => ?_
 rw [dg_two]
 unfold zu
 rw [if_pos (by omega)]
 by_cases h : 2 * j + 1 < len
 · rw [if_pos h]
 · rw [if_neg h]
   have e : len = 2 * j + 1 := by omega
   have : dg 256 n (2 * j + 1) = 0 := by unfold dg; rw [← e, Nat.div_eq_of_lt hn]; rfl
   rw [this]; rfl
theorem figsf_0 (n K : Nat) : row .u32 K (zu n 0) = row .u32 K (fun _ => 0) := Qb _ _ _ _ fun j _ => by unfold zu; rw [if_neg (by omega), if_neg (by omega)]; rfl
theorem mkK (w : World) (K : Nat) (hK : K ≤ 1000) : (Instr.makeSlice 208 (.int .i64 (K : Int)) (.int .i64 (K : Int))).run Tryz.prog w = .ok (.slice (some ⟨w.heap.size, 0, none⟩) K K) (w.alloc (.cells (row .u32 K fun _ => 0) 127)) := by
 obtain ⟨i0, hi, hz0, hz1, hz2⟩ := info_parts info91
 have h := run_makeSlice (P := Tryz.prog) w 208 127 i0 _ Tryz.underlying208 hi hz0 .i64 .i64 (K : Int) (K : Int) (by omega) (by omega) (by rw [hz1]; omega) (by rw [hz2]; omega) (by omega)
 rw [hz1] at h
 simp only [Int.toNat_natCast, Nat.mul_one] at h
 have e : madeCells (Value.int .u32 0).cells K = row .u32 K fun _ => 0 := by
  apply Array.ext_getElem?
  intro j
  by_cases hj : j < K
  · rw [qP _ _ _ _ hj]; simp [madeCells, Value.cells, hj, Nat.mod_one]
  · rw [ZY _ _ _ _ hj]; simp [madeCells]; omega
 rw [e] at h
 exact h
theorem or_low (c : Nat) (hc : c < 256) : bits .or .u32 0 (c : Int) = (c : Int) := by
 rw [bits_join .u32 32 (by decide) wu32 8 _ _ (by omega) (by omega) (by omega) (by omega) (by omega) (by omega)]; omega
theorem or_high (x c : Nat) (hx : x < 256) (hc : c < 256) : bits .or .u32 (x : Int) ((c * 256 : Nat) : Int) = ((x + 256 * c : Nat) : Int) := by
 have h1 : bits .or .u32 (x : Int) ((c * 256 : Nat) : Int) = bits .or .u32 ((c * 256 : Nat) : Int) (x : Int) := by
  rw [(bits_nat .u32 32 (by decide) wu32 x (c * 256) (by omega) (by omega)).2, (bits_nat .u32 32 (by decide) wu32 (c * 256) x (by omega) (by omega)).2, Nat.or_comm]
 rw [h1, bits_join .u32 32 (by decide) wu32 8 _ _ (by omega) (by omega) (by omega) (by omega) (by omega) (by omega)]
 omega
theorem fig_step (n k : Nat) : upd (zu n k) (k / 2) (Qz .or .u32 (zu n k (k / 2)) ((n / 256 ^ k % 256 * 2 ^ (8 * (k % 2)) : Nat) : Int)) = zu n (k + 1) := by
 have lc : n / 256 ^ k % 256 < 256 := Nat.mod_lt _ (by decide)
 rw [bitB_or]
 rcases Nat.mod_two_eq_zero_or_one k with he | he
 · obtain ⟨j, rfl⟩ : ∃ j, k = 2 * j := ⟨k / 2, by omega⟩
   rw [he, show 2 * j / 2 = j by omega, figsf_even, show 8 * 0 = 0 from rfl, Nat.pow_zero, Nat.mul_one, or_low _ lc]
   exact qd8 n j _ rfl
 · obtain ⟨j, rfl⟩ : ∃ j, k = 2 * j + 1 := ⟨k / 2, by omega⟩
   have lx : n / 256 ^ (2 * j) % 256 < 256 := Nat.mod_lt _ (by decide)
   rw [he, show (2 * j + 1) / 2 = j by omega, figsf_odd, show 2 ^ (8 * 1) = 256 from rfl, dgn, or_high _ _ lx lc]
   exact qes n j _ (by rw [dgn, dgn]; omega)
theorem qcV (a : Option Addr) (len cap n : Nat) (hlen : len ≤ 1000) (hn : n < 256 ^ len) (w : World) (hb : Byts w a len n) :
 Calls Tryz.prog 162 ([.slice a len cap] : List Value).toArray w fun e w' => ∃ F, e = .returned (.slice (some ⟨F, 0, none⟩) ((len + 1) / 2) ((len + 1) / 2)) ∧ w.heap.size ≤ F ∧ w'.heap[F]? = some (.cells (row .u32 ((len + 1) / 2) (dg 65536 n)) 127 (0, 0)) ∧ Below w.heap.size w w' := by
 have hfin := figsf_all n len hn
 obtain ⟨K, hKe⟩ : ∃ K, K = (len + 1) / 2 := ⟨_, rfl⟩
 rw [← hKe] at hfin ⊢
 refine (enter (vs := [.slice a len cap]) (R := fun v w' => ∃ F, v = .slice (some ⟨F, 0, none⟩) K K ∧ w.heap.size ≤ F ∧ w'.heap[F]? = some (.cells (row .u32 K (dg 65536 n)) 127 (0, 0)) ∧ Below w.heap.size w w') qc Tryz.func162 rfl Tryz.ntmps162 rfl (St.start w) ?_).mono (fun e w' ⟨v, he, F, h1, h2⟩ => ⟨F, by rw [he, h1], h2⟩)
 refine .as ((len + 1 : Nat) : Int) (by (try push_cast); (try omega)) (by simp only [mn]; omega) (by simp only [mx]; omega) ?_
 refine ⟨by omega, by simp only [mx]; omega, by decide, ?_⟩
 rw [show ((len + 1 : Nat) : Int) / 2 = (K : Int) by omega]
 refine .mk K K (row .u32 K fun _ => 0) 127 (fun w => mkK w K (by omega)) (fun bF => ?_)
 rw [← figsf_0 n K]
 refine lp qc (fun k : Nat => k ≤ len) (fun k => ⟨[(3, .slice (some ⟨bF, 0, none⟩) K K), (11, .slice a len cap), (12, .int .i64 (len : Int)), (13, .int .i64 (k : Int))], [cl bF (row .u32 K (zu n k)) 127], []⟩) (fun k => len - k) 0 (Nat.zero_le _) ⟨⟨rfl, rfl, rfl, rfl, trivial⟩, .refl _, rfl⟩ ?_
 intro k hk
 refine cd (fun h => ?_) (fun h => ?_)
 · have hlt : k < len := by omega
   rcases hb with h0 | ⟨b, o, rfl, hbl, hcb⟩
   · omega
   have lc : n / 256 ^ k % 256 < 256 := Nat.mod_lt _ (by decide)
   refine ⟨by omega, by omega, ?_⟩
   refine ldo (v := .int .u8 ((n / 256 ^ k % 256 : Nat) : Int)) (by rw [qi, qh, Nat.mul_one, Int.toNat_natCast]; exact hcb k hlt) hbl ?_
   refine drs [dead] [] (.t 0 (.t 1 (.t 2 (.t 3 (.t 5 (.t 6 (.t 7 (.t 8 (.t 9 (.t 10 (.n 4 (.t 11 (.t 12 (.n 13 .nil)))))))))))))) qc qe (by kernel_rfl) (.dead .nil) ?_
   refine ⟨by omega, by simp only [mx]; omega, by decide, ?_⟩
   rw [show (k : Int) / 2 = ((k / 2 : Nat) : Int) by omega]
   refine ⟨by omega, by omega, ?_⟩
   refine .same (by simp only [mn]; omega) (by simp only [mx]; omega) ?_
   refine ⟨by omega, by simp only [mx]; omega, by decide, ?_⟩
   refine .as ((8 * (k % 2) : Nat) : Int) (by omega) (by simp only [mn]; omega) (by simp only [mx]; omega) ?_
   have h8 : 2 ^ (8 * (k % 2)) ≤ 256 := by rcases Nat.mod_two_eq_zero_or_one k with e | e <;> rw [e] <;> decide
   have h9 : n / 256 ^ k % 256 * 2 ^ (8 * (k % 2)) ≤ 255 * 256 := Nat.mul_le_mul (by omega) h8
   refine ⟨by omega, .as ((n / 256 ^ k % 256 * 2 ^ (8 * (k % 2)) : Nat) : Int) (shlB _ (8 * (k % 2)) 32 (by omega)) (by simp only [mn]; omega) (by simp only [mx]; omega) ?_⟩
   refine ld1 0 rfl (qY .u32 K (zu n k) (k / 2) (by omega)) ?_
   refine ⟨.dead .nil, ?_⟩
   refine ⟨by omega, by omega, ?_⟩
   refine s1e 0 (row .u32 K (zu n (k + 1))) rfl (QV _ _ _ _ (by omega)) (zz _ _ _ _ _ _ (fig_step n k).symm) ?_
   refine ⟨.dead .nil, ?_⟩
   refine .as ((k + 1 : Nat) : Int) (by (try push_cast); (try omega)) (by simp only [mn]; omega) (by simp only [mx]; omega) ?_
   exact ⟨k + 1, by omega, by omega, ⟨⟨rfl, rfl, rfl, rfl, trivial⟩, .refl _, rfl⟩⟩
 · obtain rfl : k = len := by omega
   rw [hfin]
   exact ⟨fun w1 hs => ⟨bF, rfl, by
    rcases hs.own _ (List.mem_singleton.2 rfl) rfl rfl with h | h
    · exact h
    · simp at h, hs.nth (k := 0) rfl, hs.below⟩⟩
end
section
open Go.RowKit Go.Lib
theorem pow8 (k : Nat) : (2 : Int) ^ (k % 8) * 256 ^ (k / 8) = 2 ^ k := by
 rw [show (256 : Int) = 2 ^ 8 from rfl, ← Int.pow_mul, ← Int.pow_add, Nat.mod_add_div]
theorem pow8_le (k : Nat) : (2 : Int) ^ (k % 8) ≤ 128 ∧ (0 : Int) < 2 ^ (k % 8) := by
 refine ⟨?_, Int.pow_pos (by decide)⟩
 have hr : k % 8 < 8 := Nat.mod_lt _ (by decide)
 generalize k % 8 = r at *
 rcases (show r = 0 ∨ r = 1 ∨ r = 2 ∨ r = 3 ∨ r = 4 ∨ r = 5 ∨ r = 6 ∨ r = 7 by omega) with rfl | rfl | rfl | rfl | rfl | rfl | rfl | rfl <;> decide
theorem room8 (h : Nat → Int) (n k : Nat) (hk : k < 256) (hd : ∀ j, j < 32 → 0 ≤ h j ∧ h j < 256) (hs : qn 256 h 32 = ((n % 2 ^ k : Nat) : Int)) : h (k / 8) < 2 ^ (k % 8) := by
 have h1 := fig_le 256 (by decide) h 32 (k / 8) (by omega) (fun j hj => (hd j hj).1)
 rw [hs] at h1
 have h2 : ((n % 2 ^ k : Nat) : Int) < 2 ^ k := by
  have : n % 2 ^ k < 2 ^ k := Nat.mod_lt _ (Nat.pow_pos (by decide))
  have e : ((2 ^ k : Nat) : Int) = (2 : Int) ^ k := by rw [Int.natCast_pow]; rfl
  omega
 rw [← pow8 k] at h2
 exact Int.lt_of_mul_lt_mul_right (Int.lt_of_le_of_lt h1 h2) (Int.le_of_lt (Int.pow_pos (by decide)))
theorem qb0 (x : Int) (k : Nat) (h0 : 0 ≤ x) (h1 : x ≤ 4095) : 0 ≤ x / 2 ^ k ∧ x / 2 ^ k ≤ 4095 := by
 have hp : (0 : Int) < 2 ^ k := Int.pow_pos (by decide)
 refine ⟨Int.ediv_nonneg h0 (Int.le_of_lt hp), ?_⟩
 have := Int.ediv_le_self (2 ^ k) h0
 omega
theorem bitr (n k : Nat) (x : Int) (hx : x = dg 4096 n (k / 12)) : x / 2 ^ (k % 12) % 2 = ((n / 2 ^ k % 2 : Nat) : Int) := by
 rw [hx, dg, ← bit12 n k]
 norm_cast
theorem key_end (n : Nat) (hn : n < 2 ^ 256) (h : Nat → Int) (hd : ∀ j, j < 32 → 0 ≤ h j ∧ h j < 256) (hs : qn 256 h 32 = ((n % 2 ^ 256 : Nat) : Int)) : row .u8 32 h = k32 n := by
 rw [Nat.mod_eq_of_lt hn] at hs
 exact Qb _ _ _ _ (zL 256 h n 32 hd hs)
theorem rkey_any (n : Nat) (hn : n < 2 ^ 256) (w : World) :
 Calls Tryz.prog 76 #[.agg (r22 n)] w fun e w' => e = .returned (.agg (k32 n)) ∧ Below w.heap.size w w' := by
 have HE := Lib.hid (key_end n hn); clear hn
 go_enter Tryz.func76, Tryz.ntmps76
 go_wp2_with fail
 go_loopw [4] (fun i wr => ∃ (k : Nat) (h : Nat → Int), k ≤ 256 ∧ i = .int .i64 k ∧ (∀ j, j < 32 → 0 ≤ h j ∧ h j < 256) ∧ qn 256 h 32 = ((n % 2 ^ k : Nat) : Int) ∧ Has wr w.heap.size (r22 n) 101 ∧ HasN wr (w.heap.size + 1) 32 36 ∧ Has wr (w.heap.size + 1 + 1) (row .u8 32 h) 36 ∧ Below w.heap.size w wr) (fun i _ => 256 - (RowKit.intOf i).toNat)
 case atStart => exact ⟨0, fun _ => 0, by omega, rfl, fun j hj => by simp, by rw [zr _ _ _ (fun _ _ => rfl)]; simp [Nat.mod_one], ((Has.new _ _ _).alloc _).alloc _, (HasN.new1 _ _ _ _ 32 rfl).alloc _, Has.new2 _ _ _ _ _, qax _ _ _ _⟩
 case round =>
  obtain ⟨k, h, hk, rfl, hd, hs, m0, m1, m2, hB⟩ := hrel
  have M0 := Lib.hid m0; clear m0
  have M1 := Lib.hid m1; clear m1
  have M2 := Lib.hid m2; clear m2
  have Hd := Lib.hid hd; clear hd
  have Hs := Lib.hid hs; clear hs
  by_cases hlt : k < 256
  · have h1 := M0.out.cell (k / 12) (by omega)
    have x0 := qac n (k / 12)
    have x1 := qb1 n (k / 12)
    obtain ⟨x, hx⟩ : ∃ x, x = dg 4096 n (k / 12) := ⟨_, rfl⟩
    rw [← hx] at h1 x0 x1
    have hbit := bitr n k x hx
    have k0 : (0 : Int) ≤ (k : Int) % 12 := by omega
    have k1 : (k : Int) % 12 < 12 := by omega
    have k2 : (0 : Int) ≤ (k : Int) / 12 := by omega
    have k3 : (k : Int) / 12 < 22 := by omega
    have k4 : (0 : Int) ≤ (k : Int) % 8 := by omega
    have k5 : (k : Int) % 8 < 8 := by omega
    have k6 : (0 : Int) ≤ (k : Int) / 8 := by omega
    have k7 : (k : Int) / 8 < 32 := by omega
    obtain ⟨s0, s1⟩ := qb0 x (k % 12) x0 x1
    have h2 := M2.out.cell (k / 8) (by omega)
    have hfz := M2.out.frozen (k / 8)
    have hy := room8 h n k hlt Hd.out Hs.out
    have hy0 := (Hd.out (k / 8) (by omega)).1
    obtain ⟨y, hyy⟩ : ∃ y, y = h (k / 8) := ⟨_, rfl⟩
    rw [← hyy] at h2 hy hy0
    have hp8 := (pow8_le k).1
    have hp80 := (pow8_le k).2
    have Hx := Lib.hid hx; clear hx
    have Hbit := Lib.hid hbit; clear hbit
    have Hyy := Lib.hid hyy; clear hyy
    by_cases hb1 : x / 2 ^ (k % 12) % 2 = 1
    · have ht : (x / 2 ^ (k % 12) % 2 == 1) = true := by simp [hb1]
      have Hb1 := Lib.hid hb1; clear hb1
      go_wp2_with fail
      go_roundw
      case measure => simp [RowKit.intOf]; omega
      case rel =>
       refine ⟨k + 1, upd h (k / 8) (y + 2 ^ (k % 8)), by omega, by go_num, ?_, ?_, M0.out.other _ _ (by simp <;> omega), M1.out.other _ _ (by simp <;> omega), M2.out.set _ _, hB.setCell (by simp <;> omega) _⟩
       · intro j hj
         by_cases e : j = k / 8
         · subst e; rw [qu]; omega
         · rw [qs _ _ _ _ e]; exact Hd.out j hj
       · have hb2 : ((n / 2 ^ k % 2 : Nat) : Int) = 1 := Hbit.out.symm.trans Hb1.out
         rw [Qt _ _ _ _ _ (by omega), Hs.out, qas, ← Hyy.out]
         have e := pow8 k
         have e2 : ((n % 2 ^ k + n / 2 ^ k % 2 * 2 ^ k : Nat) : Int) = ((n % 2 ^ k : Nat) : Int) + ((n / 2 ^ k % 2 : Nat) : Int) * 2 ^ k := by
          rw [Int.natCast_add, Int.natCast_mul, Int.natCast_pow]; rfl
         rw [e2, hb2, ← e]
         generalize (2 : Int) ^ (k % 8) = U
         generalize (256 : Int) ^ (k / 8) = V
         grind
    · have ht : (x / 2 ^ (k % 12) % 2 == 1) = false := by simp [hb1]
      have hb0 : x / 2 ^ (k % 12) % 2 = 0 := by omega
      clear hb1
      have Hb0 := Lib.hid hb0; clear hb0
      go_wp2_with fail
      go_roundw
      case measure => simp [RowKit.intOf]; omega
      case rel =>
       refine ⟨k + 1, h, by omega, by go_num, Hd.out, ?_, M0.out, M1.out, M2.out, hB⟩
       have hb2 : n / 2 ^ k % 2 = 0 := by have := Hbit.out.symm.trans Hb0.out; omega
       rw [Hs.out, qas, hb2, Nat.zero_mul, Nat.add_zero]
  · obtain rfl : k = 256 := by omega
    have m2 := M2.out
    rw [HE.out h Hd.out Hs.out] at m2
    obtain ⟨Z, hZ, mz⟩ := M1.out
    have M2 := Lib.hid m2; clear m2
    have Mz := Lib.hid mz; clear mz
    have HZ := Lib.hid hZ; clear hZ
    go_wp2_with (first | (refine wpList_load_row rfl 36 _ rfl (w.heap.size + 1 + 1) rfl 36 (k32 n) (0, 0) _ M2.out Tryz.underlying36 rfl (by rw [qf]; kernel_rfl) ?_) | (refine wpList_store_row rfl 36 _ _ rfl (w.heap.size + 1) _ rfl rfl 36 Z Mz.out (by rw [qf]; kernel_rfl) (HZ.out.trans (qf _).symm) (QA _ _ _) ?_))
    exact bodyPost_ret (v := .agg (k32 n)) (results_cell_row (t := 36) (by rfl) _ _ (w.heap.size + 1) _ _ _ rfl (Mz.out.setRow _) Tryz.underlying36 rfl (by rw [qf]; kernel_rfl)) rfl ⟨rfl, qB hB _ _ (by omega)⟩
theorem div_succ (n k : Nat) : n / 4096 ^ (k + 1) = n / 4096 ^ k / 4096 := by rw [Nat.pow_succ, Nat.div_div_eq_div_mul]
theorem int_inv (n : Nat) (hn : n < 9223372036854775808) (h : Nat → Int) (hl : ∀ j, j < 6 → h j = dg 4096 n j) (hh : ∀ j, 6 ≤ j → h j = 0) : qev n 0 h := by
 have hz : ∀ j, 6 ≤ j → dg 4096 n j = 0 := by
  intro j hj
  unfold dg
  have : n < 4096 ^ j := Nat.lt_of_lt_of_le (Nat.lt_of_lt_of_le hn (by decide)) (Nat.pow_le_pow_right (by decide) hj)
  rw [Nat.div_eq_of_lt this]; rfl
 have he : ∀ j, h j = dg 4096 n j := fun j => by
  by_cases hj : j < 6
  · exact hl j hj
  · rw [hh j (by omega), hz j (by omega)]
 refine qa6 _ h (fun i _ => ?_) ?_ ?_
 · rw [he i]; have a := qac n i; have b := qb1 n i; omega
 · rw [zm 4096 h (dg 4096 n) 44 (fun i _ => he i)]
   have := zj 4096 n 44
   rw [Nat.mod_eq_of_lt (Nat.lt_of_lt_of_le hn (by decide +kernel))] at this
   exact this
 · rw [bnd0]; omega
theorem qc6 (n : Nat) (hn : n < 9223372036854775808) (w : World) :
 Calls Tryz.prog 81 #[.int .i64 n] w fun e w' => e = .returned (.agg (r22 (n % PP))) ∧ Below w.heap.size w w' := by
 have HI := Lib.hid (int_inv n hn)
 have hq0 : n / 4096 ^ 0 < 9223372036854775808 := by simpa using hn
 have hend : n / 4096 ^ 6 = 0 := Nat.div_eq_of_lt (Nat.lt_of_lt_of_le hn (by decide))
 obtain ⟨r, hr⟩ : ∃ r, r = n % PP := ⟨_, rfl⟩
 have hle := fun h hi w => qa5 n h hi w
 rw [← hr] at hle ⊢
 have hdl : ∀ k, n / 4096 ^ k ≤ n := fun k => Nat.div_le_self _ _
 have Hle := Lib.hid hle; clear hle
 have Hend := Lib.hid hend; clear hend
 have Hq0 := Lib.hid hq0; clear hq0
 have Hdl := Lib.hid hdl; clear hdl
 clear hr
 go_enter Tryz.func81, Tryz.ntmps81
 go_wp2_with fail
 go_loopw [0, 4] (fun q i wr => ∃ (k : Nat) (h : Nat → Int), k ≤ 6 ∧ i = .int .i64 k ∧ q = .int .i64 ((n / 4096 ^ k : Nat) : Int) ∧ (∀ j, j < k → h j = dg 4096 n j) ∧ (∀ j, k ≤ j → h j = 0) ∧ HasN wr w.heap.size 22 101 ∧ Has wr (w.heap.size + 1) (row .i64 44 h) 176 ∧ Below w.heap.size w wr) (fun _ i _ => 6 - (RowKit.intOf i).toNat)
 case atStart => exact ⟨0, fun _ => 0, by omega, rfl, by simp, fun j hj => by omega, fun _ _ => rfl, (HasN.new _ _ _ 22 rfl).alloc _, Has.new1 _ _ _ _, qb5 _ _ _⟩
 case round =>
  obtain ⟨k, h, hk, rfl, rfl, hl, hh, m0, m1, hB⟩ := hrel
  have M0 := Lib.hid m0; clear m0
  have M1 := Lib.hid m1; clear m1
  have Hl := Lib.hid hl; clear hl
  have Hh := Lib.hid hh; clear hh
  by_cases hlt : k < 6
  · have h2 := M1.out.cell k (by omega)
    have hfz := M1.out.frozen k
    have hq1 := Hdl.out k
    have hfig : ((n / 4096 ^ k : Nat) : Int) % 4096 = dg 4096 n k := by unfold dg; omega
    have hnx : ((n / 4096 ^ k : Nat) : Int) / 4096 = ((n / 4096 ^ (k + 1) : Nat) : Int) := by rw [div_succ]; omega
    obtain ⟨q, hq⟩ : ∃ q, q = n / 4096 ^ k := ⟨_, rfl⟩
    rw [← hq] at hq1 hfig hnx
    rw [← hq]
    have Hq := Lib.hid hq; clear hq
    have Hfig := Lib.hid hfig; clear hfig
    have Hnx := Lib.hid hnx; clear hnx
    go_wp2_with fail
    go_roundw
    case measure => simp [RowKit.intOf]; omega
    case rel =>
     refine ⟨k + 1, upd h k ((q : Int) % 4096), by omega, by go_num, by rw [← Hnx.out], ?_, ?_, M0.out.other _ _ (by simp <;> omega), M1.out.set _ _, hB.setCell (by simp <;> omega) _⟩
     · intro j hj
       by_cases e : j = k
       · subst e; rw [qu, Hfig.out]
       · rw [qs _ _ _ _ e]; exact Hl.out j (by omega)
     · intro j hj; rw [qs _ _ _ _ (by omega)]; exact Hh.out j (by omega)
  · obtain rfl : k = 6 := by omega
    have HC := Lib.hid (HI.out h Hl.out Hh.out)
    go_wp2_with (first | (refine wpList_load_row rfl 176 _ rfl (w.heap.size + 1) rfl 176 (row .i64 44 h) (0, 0) _ M1.out Tryz.underlying176 rfl (by rw [qR]; kernel_rfl) ?_))
    refine (Hle.out h HC.out _).mono ?_
    rintro e w1 ⟨rfl, hb1⟩
    obtain ⟨Z, hZ, mz⟩ := M0.out.below hb1 M0.out.lt
    have HBB := Lib.hid (qB (hB.trans (hb1.mono hB.size)) w.heap.size (r22 r) (by omega))
    clear hb1
    have Mz := Lib.hid mz; clear mz
    have HZ := Lib.hid hZ; clear hZ
    go_wp2_with (refine wpList_store_row rfl 101 _ _ rfl (w.heap.size) _ rfl rfl 101 Z Mz.out (by rw [qg]; kernel_rfl) (HZ.out.trans (qg _).symm) (QA _ _ _) ?_)
    exact bodyPost_ret (v := .agg (r22 r)) (results_cell_row (t := 101) (by rfl) _ _ (w.heap.size) _ _ _ rfl (Mz.out.setRow _) Tryz.underlying101 rfl (by rw [qg]; kernel_rfl)) rfl ⟨rfl, HBB.out⟩
end
section
open Go.RowKit Go.Lib
theorem QR : PP = 57896044618658097711785492504343953926634992332820282019728792003956564819949 := rfl
theorem int_num (n : Int) (m : Nat) (h : n = -(m : Int) - 1) : ((0 + (PP - m % PP)) % PP + (PP - 1 % PP)) % PP = (n % (PP : Int)).toNat := by
 subst h
 have hp := QR
 have hpos := qw
 have hlt := Nat.mod_lt m hpos
 have hdm := Nat.div_add_mod m PP
 generalize m % PP = r at *
 generalize m / PP = q at *
 subst hdm
 have e1 : 1 % PP = 1 := by decide +kernel
 rw [e1]
 have e2 : (-((PP * q + r : Nat) : Int) - 1) = (-(r : Int) - 1) + (PP : Int) * (-(q : Int)) := by
  rw [Int.natCast_add, Int.natCast_mul, Int.mul_neg]; omega
 rw [e2, Int.add_mul_emod_self_left]
 rw [hp] at *
 omega
theorem pow_next (a e k x b : Nat) (hx : x = a ^ (e / 2 ^ (k + 1)) % PP) (hb : b = e / 2 ^ k % 2) : (if b = 1 then x * x % PP * a % PP else x * x % PP) = a ^ (e / 2 ^ k) % PP := by
 have h1 : e / 2 ^ k = 2 * (e / 2 ^ (k + 1)) + b := by
  rw [hb, Nat.pow_succ, ← Nat.div_div_eq_div_mul]; omega
 have hb2 : b < 2 := by rw [hb]; exact Nat.mod_lt _ (by decide)
 rw [h1, hx]
 generalize e / 2 ^ (k + 1) = E
 clear h1 hx hb
 have h2 : a ^ E % PP * (a ^ E % PP) % PP = a ^ (2 * E) % PP := by rw [← Nat.mul_mod, Nat.two_mul, Nat.pow_add]
 rw [h2]
 rcases (show b = 0 ∨ b = 1 by omega) with h0 | h0
 · rw [if_neg (by omega), h0]; rfl
 · rw [if_pos h0, h0, Nat.mod_mul_mod]; rfl
theorem rpower_any (a e : Nat) (ha : a < PP) (he : e < 2 ^ 255) (w : World) :
 Calls Tryz.prog 108 #[.agg (r22 a), .agg (r22 e)] w fun en w' => en = .returned (.agg (r22 (a ^ e % PP))) ∧ Below w.heap.size w w' := by
 have he0 : a ^ (e / 2 ^ 0) % PP = a ^ e % PP := by rw [Nat.pow_zero, Nat.div_one]
 have he1 : a ^ (e / 2 ^ 255) % PP = 1 % PP := by rw [Nat.div_eq_of_lt he, Nat.pow_zero]
 have hnx := pow_next a e
 have ht := fun x y hx hy w => q9 x y hx hy w
 have hc1 := fun w => qc6 1 (by omega) w
 have He0 := Lib.hid he0; clear he0
 have He1 := Lib.hid he1; clear he1
 have Hnx := Lib.hid hnx; clear hnx
 have Ht := Lib.hid ht; clear ht
 have Hc1 := Lib.hid hc1; clear hc1
 have Ha := Lib.hid ha; clear ha
 have He := Lib.hid he; clear he
 go_enter Tryz.func108, Tryz.ntmps108
 go_wp2_with fail
 refine (Hc1.out _).mono ?_
 rintro en w1 ⟨rfl, b1⟩
 have m0 := (((Has.new w (r22 a) 101).alloc (.cells (r22 e) 101)).alloc (.cells (row .i64 22 fun _ => 0) 101)).call b1
 have m1 := ((Has.new1 w (.cells (r22 a) 101) (r22 e) 101).alloc (.cells (row .i64 22 fun _ => 0) 101)).call b1
 have m2 := (HasN.new2 w (.cells (r22 a) 101) (.cells (r22 e) 101) (row .i64 22 fun _ => 0) 101 22 (qR _ _ _)).call b1
 have hB := qX (qax w (.cells (r22 a) 101) (.cells (r22 e) 101) (.cells (row .i64 22 fun _ => 0) 101)) b1
 clear b1
 have h1r : (1 % PP) < PP := Nat.mod_lt _ qw
 obtain ⟨o, ho⟩ : ∃ o, o = 1 % PP := ⟨_, rfl⟩
 rw [← ho] at h1r ⊢
 have M0 := Lib.hid m0; clear m0
 have M1 := Lib.hid m1; clear m1
 have M2 := Lib.hid m2; clear m2
 have HB := Lib.hid hB; clear hB
 have H1r := Lib.hid h1r; clear h1r
 have Ho := Lib.hid ho; clear ho
 obtain ⟨Z, hZ, mz⟩ := HasN.new w1 (row .i64 22 fun _ => 0) 101 22 (qR _ _ _)
 have q0 := (M0.out.alloc (.cells (row .i64 22 fun _ => 0) 101)).setRow_other w1.heap.size (r22 o) (by have := M0.out.lt; omega)
 have q1 := (M1.out.alloc (.cells (row .i64 22 fun _ => 0) 101)).setRow_other w1.heap.size (r22 o) (by have := M1.out.lt; omega)
 have q2 := (M2.out.alloc (.cells (row .i64 22 fun _ => 0) 101)).setRow_other w1.heap.size (r22 o) (by have := M2.out.lt; omega)
 have q3 := mz.setRow (r22 o)
 have hB2 := qB (HB.out.alloc HB.out.size (.cells (row .i64 22 fun _ => 0) 101)) w1.heap.size (r22 o) HB.out.size
 have hlt3 := M2.out.lt
 have Mz := Lib.hid mz; clear mz
 have HZ := Lib.hid hZ; clear hZ
 have Q0 := Lib.hid q0; clear q0
 have Q1 := Lib.hid q1; clear q1
 have Q2 := Lib.hid q2; clear q2
 have Q3 := Lib.hid q3; clear q3
 have HB2 := Lib.hid hB2; clear hB2
 clear M0 M1 M2 HB
 go_wp2_with (refine wpList_store_row rfl 101 _ _ rfl (w1.heap.size) _ rfl rfl 101 Z Mz.out (by rw [qg]; kernel_rfl) (HZ.out.trans (qg _).symm) (QA _ _ _) ?_)
 clear Mz HZ
 go_loopw [6] (fun i wr => ∃ (k x : Nat), k ≤ 255 ∧ i = .int .i64 ((k : Int) - 1) ∧ x < PP ∧ x = a ^ (e / 2 ^ k) % PP ∧ Has wr w.heap.size (r22 a) 101 ∧ Has wr (w.heap.size + 1) (r22 e) 101 ∧ HasN wr (w.heap.size + 1 + 1) 22 101 ∧ Has wr w1.heap.size (r22 x) 101 ∧ Below w.heap.size w wr) (fun i _ => (RowKit.intOf i + 1).toNat)
 case atStart => exact ⟨255, o, by omega, rfl, H1r.out, by rw [He1.out, Ho.out], Q0.out, Q1.out, Q2.out, Q3.out, HB2.out⟩
 case round =>
  clear Q0 Q1 Q2 Q3 HB2
  obtain ⟨k, x, hk, rfl, hxp, hx, m0, m1, m2, m3, hB⟩ := hrel
  have M0 := Lib.hid m0; clear m0
  have M1 := Lib.hid m1; clear m1
  have M2 := Lib.hid m2; clear m2
  have M3 := Lib.hid m3; clear m3
  have HB := Lib.hid hB; clear hB
  have Hxp := Lib.hid hxp; clear hxp
  have Hx := Lib.hid hx; clear hx
  by_cases hlt : 0 < k
  · obtain ⟨k, rfl⟩ : ∃ j, k = j + 1 := ⟨k - 1, by omega⟩
    rw [show (((k + 1 : Nat) : Int) - 1) = (k : Int) by omega]
    go_wp2_with (refine wpList_load_row rfl 101 _ rfl (w1.heap.size) rfl 101 (r22 x) (0, 0) _ M3.out Tryz.underlying101 rfl (by rw [qg]; kernel_rfl) ?_)
    have hy0 : x * x % PP < PP := Nat.mod_lt _ qw
    obtain ⟨y, hy⟩ : ∃ y, y = x * x % PP := ⟨_, rfl⟩
    have hc := fun w => Ht.out x x Hxp.out Hxp.out w
    rw [← hy] at hc hy0
    have Hc := Lib.hid hc; clear hc
    have Hy := Lib.hid hy; clear hy
    have Hy0 := Lib.hid hy0; clear hy0
    refine (Hc.out _).mono ?_
    rintro en w2 ⟨rfl, b2⟩
    have m0 := M0.out.call b2
    have m1 := M1.out.call b2
    have m2 := M2.out.call b2
    obtain ⟨Z, hZ, mz⟩ := (M3.out.toN (qg _)).call b2
    have hB2 := qX HB.out b2
    have q0 := m0.setRow_other w1.heap.size (r22 y) (by omega)
    have q1 := m1.setRow_other w1.heap.size (r22 y) (by omega)
    have q2 := m2.setRow_other w1.heap.size (r22 y) (by omega)
    have q3 := mz.setRow (r22 y)
    have hB3 := qB hB2 w1.heap.size (r22 y) (by omega)
    clear m0 m1 m2 b2 hB2
    clear M0 M1 M2 M3 HB Hc
    have h1 := q1.cell (k / 12) (by omega)
    have x0 := qac e (k / 12)
    have x1 := qb1 e (k / 12)
    obtain ⟨z, hz⟩ : ∃ z, z = dg 4096 e (k / 12) := ⟨_, rfl⟩
    rw [← hz] at h1 x0 x1
    have hbit := bitr e k z hz
    have k0 : (0 : Int) ≤ (k : Int) % 12 := by omega
    have k1 : (k : Int) % 12 < 12 := by omega
    have k2 : (0 : Int) ≤ (k : Int) / 12 := by omega
    have k3 : (k : Int) / 12 < 22 := by omega
    obtain ⟨s0, s1⟩ := qb0 z (k % 12) x0 x1
    have Mz := Lib.hid mz; clear mz
    have HZ := Lib.hid hZ; clear hZ
    have Q0 := Lib.hid q0; clear q0
    have Q1 := Lib.hid q1; clear q1
    have Q2 := Lib.hid q2; clear q2
    have Q3 := Lib.hid q3; clear q3
    have HB3 := Lib.hid hB3; clear hB3
    have Hz := Lib.hid hz; clear hz
    have Hbit := Lib.hid hbit; clear hbit
    by_cases hb1 : z / 2 ^ (k % 12) % 2 = 1
    · have ht : (z / 2 ^ (k % 12) % 2 == 1) = true := by simp [hb1]
      have hbn : 1 = e / 2 ^ k % 2 := by have := Hbit.out; omega
      have hnx := Hnx.out k x 1 Hx.out hbn
      rw [if_pos rfl, ← Hy.out] at hnx
      have hv0 : y * a % PP < PP := Nat.mod_lt _ qw
      obtain ⟨v, hv⟩ : ∃ v, v = y * a % PP := ⟨_, rfl⟩
      have hc := fun w => Ht.out y a Hy0.out Ha.out w
      rw [← hv] at hc hv0 hnx
      clear hv hbn
      have Hb1 := Lib.hid hb1; clear hb1
      have Hc := Lib.hid hc; clear hc
      have Hv0 := Lib.hid hv0; clear hv0
      have Hnx := Lib.hid hnx; clear hnx
      go_wp2_with (first | (refine wpList_store_row rfl 101 _ _ rfl (w1.heap.size) _ rfl rfl 101 Z Mz.out (by rw [qg]; kernel_rfl) (HZ.out.trans (qg _).symm) (QA _ _ _) ?_) | (refine wpList_load_row rfl 101 _ rfl (w1.heap.size) rfl 101 (r22 y) (0, 0) _ Q3.out Tryz.underlying101 rfl (by rw [qg]; kernel_rfl) ?_) | (refine wpList_load_row rfl 101 _ rfl (w.heap.size) rfl 101 (r22 a) (0, 0) _ Q0.out Tryz.underlying101 rfl (by rw [qg]; kernel_rfl) ?_))
      refine (Hc.out _).mono ?_
      rintro en w3 ⟨rfl, b3⟩
      have m0 := Q0.out.call b3
      have m1 := Q1.out.call b3
      have m2 := Q2.out.call b3
      obtain ⟨Z', hZ', mz'⟩ := (Q3.out.toN (qg _)).call b3
      have hB4 := qX HB3.out b3
      have p0 := m0.setRow_other w1.heap.size (r22 v) (by omega)
      have p1 := m1.setRow_other w1.heap.size (r22 v) (by omega)
      have p2 := m2.setRow_other w1.heap.size (r22 v) (by omega)
      have p3 := mz'.setRow (r22 v)
      have hB5 := qB hB4 w1.heap.size (r22 v) (by omega)
      clear m0 m1 m2 b3 hB4
      have Mz' := Lib.hid mz'; clear mz'
      have HZ' := Lib.hid hZ'; clear hZ'
      have P0 := Lib.hid p0; clear p0
      have P1 := Lib.hid p1; clear p1
      have P2 := Lib.hid p2; clear p2
      have P3 := Lib.hid p3; clear p3
      have HB5 := Lib.hid hB5; clear hB5
      go_wp2_with (refine wpList_store_row rfl 101 _ _ rfl (w1.heap.size) _ rfl rfl 101 Z' Mz'.out (by rw [qg]; kernel_rfl) (HZ'.out.trans (qg _).symm) (QA _ _ _) ?_)
      go_roundw
      case measure => simp [RowKit.intOf]
      case rel => exact ⟨k, v, by omega, rfl, Hv0.out, Hnx.out, P0.out, P1.out, P2.out, P3.out, HB5.out⟩
    · have ht : (z / 2 ^ (k % 12) % 2 == 1) = false := by simp [hb1]
      have hbn : 0 = e / 2 ^ k % 2 := by have := Hbit.out; omega
      have hnx := Hnx.out k x 0 Hx.out hbn
      rw [if_neg (by decide), ← Hy.out] at hnx
      clear hb1 hbn
      have Hnx := Lib.hid hnx; clear hnx
      go_wp2_with (refine wpList_store_row rfl 101 _ _ rfl (w1.heap.size) _ rfl rfl 101 Z Mz.out (by rw [qg]; kernel_rfl) (HZ.out.trans (qg _).symm) (QA _ _ _) ?_)
      go_roundw
      case measure => simp [RowKit.intOf]
      case rel => exact ⟨k, y, by omega, rfl, Hy0.out, Hnx.out, Q0.out, Q1.out, Q2.out, Q3.out, HB3.out⟩
  · obtain rfl : k = 0 := by omega
    have hx2 : x = a ^ e % PP := Hx.out.trans He0.out
    obtain ⟨Z, hZ, mz⟩ := M2.out
    have Mz := Lib.hid mz; clear mz
    have HZ := Lib.hid hZ; clear hZ
    have Hx2 := Lib.hid hx2; clear hx2
    have HBB := Lib.hid (qB HB.out (w.heap.size + 1 + 1) (r22 x) (by omega))
    go_wp2_with (first | (refine wpList_load_row rfl 101 _ rfl (w1.heap.size) rfl 101 (r22 x) (0, 0) _ M3.out Tryz.underlying101 rfl (by rw [qg]; kernel_rfl) ?_) | (refine wpList_store_row rfl 101 _ _ rfl (w.heap.size + 1 + 1) _ rfl rfl 101 Z Mz.out (by rw [qg]; kernel_rfl) (HZ.out.trans (qg _).symm) (QA _ _ _) ?_))
    exact bodyPost_ret (v := .agg (r22 x)) (results_cell_row (t := 101) (by rfl) _ _ (w.heap.size + 1 + 1) _ _ _ rfl (Mz.out.setRow _) Tryz.underlying101 rfl (by rw [qg]; kernel_rfl)) rfl ⟨by rw [Hx2.out], HBB.out⟩
def pwm (b e : Nat) : Nat := b ^ e % PP
theorem pwm_lt (b e : Nat) : pwm b e < PP := Nat.mod_lt _ qw
theorem rpow_any (a e : Nat) (ha : a < PP) (he : e < 2 ^ 255) (w : World) :
 Calls Tryz.prog 108 #[.agg (r22 a), .agg (r22 e)] w fun en w' => en = .returned (.agg (r22 (pwm a e))) ∧ Below w.heap.size w w' := rpower_any a e ha he w
end
section
open Go.RowKit Go.Lib
def e4 (n : Nat) : Array Value := row .u64 4 (dg 18446744073709551616 n)
theorem qd (n : Nat) : (e4 n).size = 4 := qR _ _ _
def ElP (r : Nat) (w : World) (e : Ending) (w' : World) : Prop := ∃ m : Nat, m < 115792089237316195423570985008687907853269984665640564039457584007913129639936 ∧ m % PP = r ∧ e = .returned (.agg (e4 m)) ∧ Below w.heap.size w w'
theorem w_nn (n i : Nat) : 0 ≤ dg 18446744073709551616 n i := (qad _ n i (by decide)).1
theorem w_lt (n i : Nat) : dg 18446744073709551616 n i < 18446744073709551616 := (qad _ n i (by decide)).2
theorem p64_4 : (18446744073709551616 : Int) ^ 4 = 115792089237316195423570985008687907853269984665640564039457584007913129639936 := by decide +kernel
theorem n64_4 : (18446744073709551616 : Nat) ^ 4 = 115792089237316195423570985008687907853269984665640564039457584007913129639936 := by decide +kernel
theorem sum4 (n : Nat) (h : n < 115792089237316195423570985008687907853269984665640564039457584007913129639936) : qn 18446744073709551616 (dg 18446744073709551616 n) 4 = n := by
 have := zj 18446744073709551616 n 4
 rw [n64_4, Nat.mod_eq_of_lt h] at this
 exact this
theorem e4_of (h : Nat → Int) (hd : ∀ j, j < 4 → 0 ≤ h j ∧ h j < 18446744073709551616) : ∃ m : Nat, m < 115792089237316195423570985008687907853269984665640564039457584007913129639936 ∧ row .u64 4 h = e4 m ∧ qn 18446744073709551616 h 4 = m := by
 have h0 := Qf 18446744073709551616 (by decide) h 4 (fun i hi => (hd i hi).1)
 have h1 := qaj 18446744073709551616 (by decide) h 4 (fun i hi => (hd i hi).2)
 rw [p64_4] at h1
 obtain ⟨m, hm⟩ := Int.eq_ofNat_of_zero_le h0
 refine ⟨m, by omega, Qb _ _ _ _ (zL 18446744073709551616 h m 4 hd hm), hm⟩
theorem mod38 (A A' o o' : Nat) (h : A' + o' * 115792089237316195423570985008687907853269984665640564039457584007913129639936 = A + 38 * o) : (A' + o' * 115792089237316195423570985008687907853269984665640564039457584007913129639936) % PP = (A + o * 115792089237316195423570985008687907853269984665640564039457584007913129639936) % PP := by
 have e : 115792089237316195423570985008687907853269984665640564039457584007913129639936 = 38 + 2 * PP := by decide +kernel
 rw [h, e, Nat.mul_add, ← Nat.add_assoc, show o * (2 * PP) = PP * (2 * o) by ac_rfl, Nat.add_mul_mod_self_left, Nat.mul_comm 38 o]
def f38 (N : Nat) : Nat := N % 115792089237316195423570985008687907853269984665640564039457584007913129639936 + 38 * (N / 115792089237316195423570985008687907853269984665640564039457584007913129639936)
theorem qdb (N : Nat) : f38 N % PP = N % PP := by
 have := mod38 (N % 115792089237316195423570985008687907853269984665640564039457584007913129639936) (f38 N) (N / 115792089237316195423570985008687907853269984665640564039457584007913129639936) 0 (by unfold f38; omega)
 rwa [Nat.zero_mul, Nat.add_zero, show N % 115792089237316195423570985008687907853269984665640564039457584007913129639936 + N / 115792089237316195423570985008687907853269984665640564039457584007913129639936 * 115792089237316195423570985008687907853269984665640564039457584007913129639936 = N by omega] at this
theorem f38_at (A o : Nat) (h : A < 115792089237316195423570985008687907853269984665640564039457584007913129639936) : f38 (A + o * 115792089237316195423570985008687907853269984665640564039457584007913129639936) = A + 38 * o := by unfold f38; omega
theorem qaQ (N : Nat) (h : N < 115792089237316195423570985008687907853269984665640564039457584007913129639936) : f38 N = N := by unfold f38; omega
def qd7 (N : Nat) : Nat := f38 (f38 N)
theorem qd6 (N : Nat) (h : N < 2135987035920910082395021706169552114602704522356652769947041607822219725780640550022962086936576) : qd7 N < 115792089237316195423570985008687907853269984665640564039457584007913129639936 := by unfold qd7 f38; omega
theorem qda (N : Nat) : qd7 N % PP = N % PP := by unfold qd7; rw [qdb, qdb]
theorem fld_self (N : Nat) (h : N < 115792089237316195423570985008687907853269984665640564039457584007913129639936) : qd7 N = N := by unfold qd7; rw [qaQ N h, qaQ N h]
theorem ql (n : Nat) : (e4 n).toList.all (·.oneCell') = true := by unfold e4 row; exact List.all_eq_true.2 fun v hv => Zv _ _ _ v hv
theorem e4_hi (A o : Nat) : e4 (A + o * 115792089237316195423570985008687907853269984665640564039457584007913129639936) = e4 A := by
 refine Qb _ _ _ _ fun j hj => ?_
 unfold dg
 rcases (show j = 0 ∨ j = 1 ∨ j = 2 ∨ j = 3 by omega) with rfl | rfl | rfl | rfl <;> simp only [Nat.reducePow] <;> omega
open Go.Sx
theorem mul64p (x y : Int) (hx0 : 0 ≤ x) (hx : x < 18446744073709551616) (hy0 : 0 ≤ y) (hy : y < 18446744073709551616) (w : World) : Calls Tryz.prog 247 ([.int .u64 x, .int .u64 y] : List Value).toArray w fun e w' => e = .returned (.tuple #[.int .u64 (x * y / 18446744073709551616), .int .u64 (x * y % 18446744073709551616)]) ∧ Below w.heap.size w w' :=
 (mul64 x y hx0 hx hy0 hy w).mono fun _ _ ⟨h1, h2⟩ => ⟨h1, h2 ▸ Below.refl _ _⟩
theorem fold_dg (T k c : Nat) (hk : k < 4) (hi : Nat) (h : f38 T / 18446744073709551616 ^ k = T % 115792089237316195423570985008687907853269984665640564039457584007913129639936 / 18446744073709551616 ^ k + c + if k = 0 then hi * 18446744073709551616 else 0) :
 dg 18446744073709551616 (f38 T) k = ((T / 18446744073709551616 ^ k % 18446744073709551616 + c) % 18446744073709551616 : Nat) ∧ f38 T / 18446744073709551616 ^ (k + 1) = T % 115792089237316195423570985008687907853269984665640564039457584007913129639936 / 18446744073709551616 ^ (k + 1) + (T / 18446744073709551616 ^ k % 18446744073709551616 + c) / 18446744073709551616 + if k = 0 then hi else 0 := by
 have hd : T / 18446744073709551616 ^ k % 18446744073709551616 = T % 115792089237316195423570985008687907853269984665640564039457584007913129639936 / 18446744073709551616 ^ k % 18446744073709551616 := by
  rcases (show k = 0 ∨ k = 1 ∨ k = 2 ∨ k = 3 by omega) with rfl | rfl | rfl | rfl <;> simp only [Nat.reducePow] <;> omega
 rw [dgn, hd, Nat.pow_succ, ← Nat.div_div_eq_div_mul, ← Nat.div_div_eq_div_mul]
 generalize T % 115792089237316195423570985008687907853269984665640564039457584007913129639936 / 18446744073709551616 ^ k = x at *
 rw [h]
 split <;> omega
theorem add64n (x y c : Nat) (hc : c < 2) (w : World) : (callFunc 248 ([.int .u64 (x : Int), .int .u64 (y : Int), .int .u64 (c : Int)] : List Value).toArray).run Tryz.prog w = .ok (.value (.tuple #[.int .u64 (((x + y + c) % 18446744073709551616 : Nat) : Int), .int .u64 (((x + y + c) / 18446744073709551616 : Nat) : Int)])) w := by
 have := add64 x y c (by omega) (by omega) (by omega) (by omega) w
 rw [show (((x + y + c) % 18446744073709551616 : Nat) : Int) = ((x : Int) + y + c) % 18446744073709551616 by omega, show (((x + y + c) / 18446744073709551616 : Nat) : Int) = ((x : Int) + y + c) / 18446744073709551616 by omega]
 exact this
theorem add64z (x y : Nat) (w : World) : (callFunc 248 ([.int .u64 (x : Int), .int .u64 (y : Int), .int .u64 0] : List Value).toArray).run Tryz.prog w = .ok (.value (.tuple #[.int .u64 (((x + y) % 18446744073709551616 : Nat) : Int), .int .u64 (((x + y) / 18446744073709551616 : Nat) : Int)])) w := add64n x y 0 (by decide) w
theorem fold_ex (N : Nat) (hN : N / 115792089237316195423570985008687907853269984665640564039457584007913129639936 < 18446744073709551616) (w : World) :
 Calls Tryz.prog 249 ([.agg (e4 N), .int .u64 ((N / 115792089237316195423570985008687907853269984665640564039457584007913129639936 : Nat) : Int)] : List Value).toArray w fun e w' => e = .returned (.agg (e4 (qd7 N))) ∧ Below w.heap.size w w' := by
 obtain ⟨m, hm⟩ : ∃ m, qd7 N = m := ⟨_, rfl⟩
 have hml : m < 115792089237316195423570985008687907853269984665640564039457584007913129639936 := by rw [← hm]; exact qd6 N (by omega)
 have hm' : f38 (f38 N) = m := hm
 rw [hm]
 clear hm
 refine qj qc Tryz.func249 rfl Tryz.ntmps249 rfl (St.start w) ?_
 intro b2 b4
 refine lp qc (fun T : Nat => T / 115792089237316195423570985008687907853269984665640564039457584007913129639936 < 18446744073709551616 ∧ f38 (f38 T) = m) (fun T => ⟨[(1, .int .u64 ((T / 115792089237316195423570985008687907853269984665640564039457584007913129639936 : Nat) : Int)), (2, ptr b2), (4, ptr b4)], [cl b2 (e4 T) 180, cl b4 (#[.int .u64 0, .int .u64 0, .int .u64 0, .int .u64 0] : Array Value) 180], []⟩) id N ⟨hN, hm'⟩ ⟨⟨rfl, rfl, rfl, trivial⟩, .refl _, rfl⟩ ?_
 rintro T ⟨hT, hfd⟩
 refine cd (fun hz => ?_) (fun hz => ?_)
 · obtain ⟨ov, hov⟩ : ∃ ov, ov = T / 115792089237316195423570985008687907853269984665640564039457584007913129639936 := ⟨_, rfl⟩
   have hz' : 0 < ov := by omega
   have hT38 : f38 T = T % 115792089237316195423570985008687907853269984665640564039457584007913129639936 + 38 * ov := by rw [hov]; rfl
   obtain ⟨hi, hhi⟩ : ∃ x : Nat, x = 38 * ov / 18446744073709551616 := ⟨_, rfl⟩
   obtain ⟨lo, hlo⟩ : ∃ x : Nat, x = 38 * ov % 18446744073709551616 := ⟨_, rfl⟩
   rw [← hov]
   refine cv (fun w => mul64p (ov : Int) 38 (by omega) (by omega) (by omega) (by omega) w) ?_
   rw [show (ov : Int) * 38 / 18446744073709551616 = (hi : Int) by omega, show (ov : Int) * 38 % 18446744073709551616 = (lo : Int) by omega]
   have he : e4 T = row .u64 4 (mix 18446744073709551616 (f38 T) T 0) := qdX _ _ _ _ _
   have hq : T / 115792089237316195423570985008687907853269984665640564039457584007913129639936 = ov := hov.symm
   refine lp qc (fun x : Nat × Nat => x.1 ≤ 4 ∧ x.2 < 18446744073709551616 ∧ (1 ≤ x.1 → x.2 ≤ 38) ∧ f38 T / 18446744073709551616 ^ x.1 = T % 115792089237316195423570985008687907853269984665640564039457584007913129639936 / 18446744073709551616 ^ x.1 + x.2 + if x.1 = 0 then hi * 18446744073709551616 else 0) (fun x => ⟨[(2, ptr b2), (4, ptr b4), (5, .int .u64 (hi : Int)), (6, .int .u64 (x.2 : Int)), (15, .int .i64 (x.1 : Int))], [cl b2 (row .u64 4 (mix 18446744073709551616 (f38 T) T x.1)) 180, cl b4 (#[.int .u64 0, .int .u64 0, .int .u64 0, .int .u64 0] : Array Value) 180], []⟩) (fun x => 4 - x.1) (0, lo) ⟨by omega, by omega, fun h => by simp at h, by simp only [Nat.pow_zero, Nat.div_one, if_true]; omega⟩ ⟨⟨rfl, rfl, rfl, rfl, rfl, trivial⟩, by rw [he]; exact .refl _, rfl⟩ ?_
   clear he
   rintro ⟨k, c⟩ ⟨hk, hc, hc38, hs⟩
   simp only at hk hc hc38 hs
   refine cd (fun hlt => ?_) (fun hge => ?_)
   · have hlt' : k < 4 := by (try simp only at hlt); omega
     refine ⟨by omega, by omega, ?_⟩
     refine ld1 0 rfl (qcs _ _ _ _ _ _ hlt') ?_
     refine qd9 rfl rfl rfl (fun w hs => add64z (T / 18446744073709551616 ^ k % 18446744073709551616) c w) ?_
     obtain ⟨h1, h2⟩ := fold_dg T k c hlt' hi hs
     have hx0 : T / 18446744073709551616 ^ k % 18446744073709551616 < 18446744073709551616 := Nat.mod_lt _ (by decide)
     generalize T / 18446744073709551616 ^ k % 18446744073709551616 = x at *
     refine ⟨by omega, by omega, ?_⟩
     refine s1e 0 (row .u64 4 (mix 18446744073709551616 (f38 T) T (k + 1))) rfl (QV _ _ _ _ hlt') (qaL _ _ _ _ _ _ _ h1.symm) ?_
     refine cq (fun h0 => ?_) (fun h0 => ?_)
     · obtain rfl : k = 0 := by omega
       refine .as (((x + c) / 18446744073709551616 + hi : Nat) : Int) (by omega) (by show (0 : Int) ≤ _; omega) (by show _ ≤ (18446744073709551615 : Int); omega) ?_
       refine .as ((1 : Nat) : Int) rfl (by decide) (by decide) ?_
       exact ⟨(1, (x + c) / 18446744073709551616 + hi), ⟨by simp only; omega, by simp only; omega, fun _ => by simp only; omega, by simp only; rw [if_neg (by decide)]; rw [if_pos rfl] at h2; omega⟩, by simp only; omega, ⟨⟨rfl, rfl, rfl, rfl, rfl, trivial⟩, .refl _, rfl⟩⟩
     · have hk0 : k ≠ 0 := by omega
       refine .as ((k + 1 : Nat) : Int) (by (try push_cast); (try omega)) (by simp only [mn]; omega) (by simp only [mx]; omega) ?_
       rw [if_neg hk0] at h2
       exact ⟨(k + 1, (x + c) / 18446744073709551616), ⟨by simp only; omega, by simp only; omega, fun _ => by simp only; omega, by simp only; rw [if_neg (by omega)]; exact h2⟩, by simp only; omega, ⟨⟨rfl, rfl, rfl, rfl, rfl, trivial⟩, .refl _, rfl⟩⟩
   · obtain rfl : k = 4 := by (try simp only at hge); omega
     rw [if_neg (by decide)] at hs
     simp only [Nat.reducePow] at hs
     obtain rfl : c = f38 T / 115792089237316195423570985008687907853269984665640564039457584007913129639936 := by omega
     refine ⟨f38 T, ⟨by omega, ?_⟩, by simp only [id]; omega, ⟨⟨rfl, rfl, rfl, trivial⟩, by rw [qdW]; exact .refl _, rfl⟩⟩
     rw [hfd, qaQ m hml]
 · have hT0 : T < 115792089237316195423570985008687907853269984665640564039457584007913129639936 := by omega
   rw [qaQ T hT0, qaQ T hT0] at hfd
   refine ldN 0 rfl (qd _) ?_
   refine sN 1 rfl (by rw [qd]; rfl) (ql _) ?_ (by kernel_rfl)
   refine ldN 1 rfl (qd _) ?_
   exact rt (by rw [hfd]; rfl)
end
section
open Go.RowKit Go.Lib Go.Sx
theorem add_dg (T a b k c : Nat) (h : T / 18446744073709551616 ^ k = a / 18446744073709551616 ^ k + b / 18446744073709551616 ^ k + c) :
 dg 18446744073709551616 T k = ((a / 18446744073709551616 ^ k % 18446744073709551616 + b / 18446744073709551616 ^ k % 18446744073709551616 + c) % 18446744073709551616 : Nat) ∧
  T / 18446744073709551616 ^ (k + 1) = a / 18446744073709551616 ^ (k + 1) + b / 18446744073709551616 ^ (k + 1) + (a / 18446744073709551616 ^ k % 18446744073709551616 + b / 18446744073709551616 ^ k % 18446744073709551616 + c) / 18446744073709551616 := by
 rw [dgn, Nat.pow_succ, ← Nat.div_div_eq_div_mul, ← Nat.div_div_eq_div_mul, ← Nat.div_div_eq_div_mul]
 generalize a / 18446744073709551616 ^ k = x at *
 generalize b / 18446744073709551616 ^ k = y at *
 rw [h]
 omega
theorem plus_ex (a b : Nat) (ha : a < 115792089237316195423570985008687907853269984665640564039457584007913129639936) (hb : b < 115792089237316195423570985008687907853269984665640564039457584007913129639936) (w : World) :
 Calls Tryz.prog 211 ([.agg (e4 a), .agg (e4 b)] : List Value).toArray w fun e w' => e = .returned (.agg (e4 (qd7 (a + b)))) ∧ Below w.heap.size w w' := by
 rw [show e4 a = row .u64 4 (mix 18446744073709551616 (a + b) a 0) from qdX _ _ _ _ _]
 refine qj qc Tryz.func211 rfl Tryz.ntmps211 rfl (St.start w) ?_
 intro b2 b3 b4
 refine lp qc (fun x : Nat × Nat => x.1 ≤ 4 ∧ x.2 < 2 ∧ (a + b) / 18446744073709551616 ^ x.1 = a / 18446744073709551616 ^ x.1 + b / 18446744073709551616 ^ x.1 + x.2) (fun x => ⟨[(2, ptr b2), (3, ptr b3), (4, ptr b4), (5, .int .u64 (x.2 : Int)), (7, .int .i64 (x.1 : Int))], [cl b2 (row .u64 4 (mix 18446744073709551616 (a + b) a x.1)) 180, cl b3 (e4 b) 180, cl b4 (#[.int .u64 0, .int .u64 0, .int .u64 0, .int .u64 0] : Array Value) 180], []⟩) (fun x => 4 - x.1) (0, 0) ⟨by omega, by omega, by simp only [Nat.pow_zero, Nat.div_one]; rfl⟩ ⟨⟨rfl, rfl, rfl, rfl, rfl, trivial⟩, .refl _, rfl⟩ ?_
 rintro ⟨k, c⟩ ⟨hk, hc, hs⟩
 simp only at hk hc hs
 refine cd (fun hlt => ?_) (fun hge => ?_)
 · have hlt' : k < 4 := by (try simp only at hlt); omega
   obtain ⟨h1, h2⟩ := add_dg (a + b) a b k c hs
   have hx0 : a / 18446744073709551616 ^ k % 18446744073709551616 < 18446744073709551616 := Nat.mod_lt _ (by decide)
   have hy0 : b / 18446744073709551616 ^ k % 18446744073709551616 < 18446744073709551616 := Nat.mod_lt _ (by decide)
   refine drs [dead, cl b3 (e4 b) 180] [] (.t 0 (.t 1 (.t 2 (.t 4 (.t 5 (.t 6 (.t 7 (.n 3 (.n 8 (.t 9 (.t 10 (.t 11 (.t 12 (.n 13 (.t 14 .nil))))))))))))))) qc qe (by kernel_rfl) (.dead (.cons .nil)) ?_
   refine ⟨by omega, by omega, ?_⟩
   refine ⟨by omega, by omega, ?_⟩
   refine ld1 1 rfl (qY _ _ _ _ hlt') ?_
   refine ld1 0 rfl (qcs _ _ _ _ _ _ hlt') ?_
   refine ⟨.dead (.cons .nil), ?_⟩
   refine qd9 rfl rfl rfl (fun w hs => add64n (a / 18446744073709551616 ^ k % 18446744073709551616) (b / 18446744073709551616 ^ k % 18446744073709551616) c hc w) ?_
   refine ⟨.dead (.cons .nil), ?_⟩
   refine ⟨by omega, by omega, ?_⟩
   refine s1e 0 (row .u64 4 (mix 18446744073709551616 (a + b) a (k + 1))) rfl (QV _ _ _ _ hlt') (qaL _ _ _ _ _ _ _ h1.symm) ?_
   refine ⟨.dead (.cons .nil), ?_⟩
   refine .as ((k + 1 : Nat) : Int) (by (try push_cast); (try omega)) (by simp only [mn]; omega) (by simp only [mx]; omega) ?_
   exact ⟨(k + 1, _), ⟨by simp only; omega, by simp only; omega, h2⟩, by simp only; omega, ⟨⟨rfl, rfl, rfl, rfl, rfl, trivial⟩, .refl _, rfl⟩⟩
 · obtain rfl : k = 4 := by (try simp only at hge); omega
   simp only [Nat.reducePow] at hs
   obtain rfl : c = (a + b) / 115792089237316195423570985008687907853269984665640564039457584007913129639936 := by omega
   refine ldN 0 rfl (qR _ _ _) ?_
   rw [qdW]
   refine cv (fun w => fold_ex (a + b) (by omega) w) ?_
   refine sN 2 rfl (by rw [qd]; rfl) (ql _) ?_ (by kernel_rfl)
   refine ldN 2 rfl (qd _) ?_
   exact rt rfl
theorem plus_any (a b : Nat) (ha : a < 115792089237316195423570985008687907853269984665640564039457584007913129639936) (hb : b < 115792089237316195423570985008687907853269984665640564039457584007913129639936) (w : World) : Calls Tryz.prog 211 #[.agg (e4 a), .agg (e4 b)] w (ElP ((a + b) % PP) w) :=
 (plus_ex a b ha hb w).mono fun _ _ ⟨h1, h2⟩ => ⟨_, qd6 _ (by omega), qda _, h1, h2⟩
end
section
open Go.RowKit Go.Lib Go.Sx
theorem minus_res (a b : Nat) : (((a : Int) - b) % (PP : Int)).toNat = (a % PP + (PP - b % PP)) % PP := by
 have hp := qw
 have hb := Nat.mod_lt b hp
 have e1 := Nat.div_add_mod a PP
 have e2 := Nat.div_add_mod b PP
 generalize a % PP = x at *
 generalize b % PP = y at *
 generalize a / PP = qa at *
 generalize b / PP = qb at *
 have : (a : Int) - b = ((x + (PP - y) : Nat) : Int) + (PP : Int) * ((qa : Int) - qb - 1) := by
  rw [← e1, ← e2, Int.natCast_add, Int.natCast_add, Int.natCast_add, Int.natCast_mul, Int.natCast_mul, Int.natCast_sub (by omega), Int.mul_sub, Int.mul_sub]
  omega
 rw [this, Int.add_mul_emod_self_left, ← Int.natCast_emod, Int.toNat_natCast]
def bwN (x y : Nat) : Nat := if x < y then 1 else 0
theorem bwN_lt (x y : Nat) : bwN x y < 2 := by unfold bwN; split <;> omega
theorem sub_dg (n d l k c : Nat) (hc : c < 2) (h : n / 18446744073709551616 ^ k = d / 18446744073709551616 ^ k + l / 18446744073709551616 ^ k + c) :
 dg 18446744073709551616 d k = ((n / 18446744073709551616 ^ k % 18446744073709551616 + 18446744073709551616 - l / 18446744073709551616 ^ k % 18446744073709551616 - c) % 18446744073709551616 : Nat) ∧
  n / 18446744073709551616 ^ (k + 1) = d / 18446744073709551616 ^ (k + 1) + l / 18446744073709551616 ^ (k + 1) + bwN (n / 18446744073709551616 ^ k % 18446744073709551616) (l / 18446744073709551616 ^ k % 18446744073709551616 + c) := by
 rw [dgn, Nat.pow_succ, ← Nat.div_div_eq_div_mul, ← Nat.div_div_eq_div_mul, ← Nat.div_div_eq_div_mul]
 generalize n / 18446744073709551616 ^ k = N at *
 generalize d / 18446744073709551616 ^ k = D at *
 generalize l / 18446744073709551616 ^ k = L at *
 unfold bwN
 split <;> omega
theorem dg_hi (A o k : Nat) (hk : k < 4) : dg 18446744073709551616 (A + o * 115792089237316195423570985008687907853269984665640564039457584007913129639936) k = dg 18446744073709551616 A k := by
 unfold dg
 rcases (show k = 0 ∨ k = 1 ∨ k = 2 ∨ k = 3 by omega) with rfl | rfl | rfl | rfl <;> simp only [Nat.reducePow] <;> omega
def qaG (A c : Nat) : Nat := if c = 0 then A else if 38 ≤ A then A - 38 else A + 115792089237316195423570985008687907853269984665640564039457584007913129639860
theorem res38_step (A D o : Nat) (hA : A < 115792089237316195423570985008687907853269984665640564039457584007913129639936) (hD : D < 115792089237316195423570985008687907853269984665640564039457584007913129639936) (ho : o < 2) (h : A + o * 115792089237316195423570985008687907853269984665640564039457584007913129639936 = D + 38) : qaG D o = qaG A 1 := by
 unfold qaG
 rw [if_neg (show ¬ (1 = 0) by decide)]
 split <;> split <;> (try split) <;> omega
theorem res38_lt (A c : Nat) (hA : A < 115792089237316195423570985008687907853269984665640564039457584007913129639936) : qaG A c < 115792089237316195423570985008687907853269984665640564039457584007913129639936 := by unfold qaG; split <;> (try split) <;> omega
theorem res38_mod (A c : Nat) (hc : c < 2) : ((qaG A c : Nat) : Int) % (PP : Int) = ((A : Int) - c * 115792089237316195423570985008687907853269984665640564039457584007913129639936) % (PP : Int) := by
 have e : (115792089237316195423570985008687907853269984665640564039457584007913129639936 : Int) = 38 + 2 * (PP : Int) := by decide +kernel
 unfold qaG
 split
 · rename_i h; rw [h]; congr 1
 · split
   · rw [show (((A - 38 : Nat) : Int)) = ((A : Int) - c * 115792089237316195423570985008687907853269984665640564039457584007913129639936) + (PP : Int) * 2 by omega, Int.add_mul_emod_self_left]
   · rw [show (((A + 115792089237316195423570985008687907853269984665640564039457584007913129639860 : Nat) : Int)) = ((A : Int) - c * 115792089237316195423570985008687907853269984665640564039457584007913129639936) + (PP : Int) * 4 by omega, Int.add_mul_emod_self_left]
def mnN (a b : Nat) : Nat := qaG ((a + 115792089237316195423570985008687907853269984665640564039457584007913129639936 - b) % 115792089237316195423570985008687907853269984665640564039457584007913129639936) (if a < b then 1 else 0)
theorem mnN_lt (a b : Nat) : mnN a b < 115792089237316195423570985008687907853269984665640564039457584007913129639936 := res38_lt _ _ (Nat.mod_lt _ (by decide))
theorem mnN_mod (a b : Nat) (ha : a < 115792089237316195423570985008687907853269984665640564039457584007913129639936) (hb : b < 115792089237316195423570985008687907853269984665640564039457584007913129639936) : mnN a b % PP = (a % PP + (PP - b % PP)) % PP := by
 have h := res38_mod ((a + 115792089237316195423570985008687907853269984665640564039457584007913129639936 - b) % 115792089237316195423570985008687907853269984665640564039457584007913129639936) (if a < b then 1 else 0) (by split <;> omega)
 rw [← minus_res, show ((a : Int) - b) = ((((a + 115792089237316195423570985008687907853269984665640564039457584007913129639936 - b) % 115792089237316195423570985008687907853269984665640564039457584007913129639936 : Nat) : Int) - ((if a < b then 1 else 0 : Nat) : Int) * 115792089237316195423570985008687907853269984665640564039457584007913129639936) by split <;> omega, ← h, ← Int.natCast_emod, Int.toNat_natCast]
 rfl
theorem sub64n (x y c : Nat) (hc : c < 2) (w : World) : (callFunc 224 ([.int .u64 (x : Int), .int .u64 (y : Int), .int .u64 (c : Int)] : List Value).toArray).run Tryz.prog w = .ok (.value (.tuple #[.int .u64 (((x + 18446744073709551616 - y - c) % 18446744073709551616 : Nat) : Int), .int .u64 ((bwN x (y + c) : Nat) : Int)])) w := by
 rw [run_callFunc_extern Tryz.func224 (by kernel_rfl) (by kernel_rfl) (by kernel_rfl) (e := sub64Ent) (by kernel_rfl), run_sub64n x y c (by omega)]
 rfl
theorem minus_ex (a b : Nat) (ha : a < 115792089237316195423570985008687907853269984665640564039457584007913129639936) (hb : b < 115792089237316195423570985008687907853269984665640564039457584007913129639936) (w : World) :
 Calls Tryz.prog 174 ([.agg (e4 a), .agg (e4 b)] : List Value).toArray w fun e w' => e = .returned (.agg (e4 (mnN a b))) ∧ Below w.heap.size w w' := by
 obtain ⟨o, ho⟩ : ∃ o : Nat, o = if a < b then 1 else 0 := ⟨_, rfl⟩
 obtain ⟨D, hD⟩ : ∃ D : Nat, D = (a + 115792089237316195423570985008687907853269984665640564039457584007913129639936 - b) % 115792089237316195423570985008687907853269984665640564039457584007913129639936 := ⟨_, rfl⟩
 have hn : a + o * 115792089237316195423570985008687907853269984665640564039457584007913129639936 = D + b := by rw [ho, hD]; split <;> omega
 have hDl : D < 115792089237316195423570985008687907853269984665640564039457584007913129639936 := by omega
 have ho2 : o < 2 := by rw [ho]; split <;> omega
 have hm : mnN a b = qaG D o := by rw [hD, ho]; rfl
 rw [hm]
 clear hm hD ho
 rw [show e4 a = row .u64 4 (mix 18446744073709551616 D a 0) from qdX _ _ _ _ _]
 refine qj qc Tryz.func174 rfl Tryz.ntmps174 rfl (St.start w) ?_
 intro b2 b3 b4
 refine lp qc (fun x : Nat × Nat => x.1 ≤ 4 ∧ x.2 < 2 ∧ (a + o * 115792089237316195423570985008687907853269984665640564039457584007913129639936) / 18446744073709551616 ^ x.1 = D / 18446744073709551616 ^ x.1 + b / 18446744073709551616 ^ x.1 + x.2) (fun x => ⟨[(2, ptr b2), (3, ptr b3), (4, ptr b4), (5, .int .u64 (x.2 : Int)), (9, .int .i64 (x.1 : Int))], [cl b2 (row .u64 4 (mix 18446744073709551616 D a x.1)) 180, cl b3 (e4 b) 180, cl b4 (#[.int .u64 0, .int .u64 0, .int .u64 0, .int .u64 0] : Array Value) 180], []⟩) (fun x => 4 - x.1) (0, 0) ⟨by omega, by omega, by simp only [Nat.pow_zero, Nat.div_one]; exact hn⟩ ⟨⟨rfl, rfl, rfl, rfl, rfl, trivial⟩, .refl _, rfl⟩ ?_
 rintro ⟨k, c⟩ ⟨hk, hc, hs⟩
 simp only at hk hc hs
 refine cd (fun hlt => ?_) (fun hge => ?_)
 · have hlt' : k < 4 := by (try simp only at hlt); omega
   obtain ⟨h1, h2⟩ := sub_dg _ D b k c hc hs
   rw [show (a + o * 115792089237316195423570985008687907853269984665640564039457584007913129639936) / 18446744073709551616 ^ k % 18446744073709551616 = a / 18446744073709551616 ^ k % 18446744073709551616 from Int.ofNat_inj.1 (dg_hi a o k hlt')] at h1 h2
   refine drs [dead, cl b3 (e4 b) 180] [] (.t 0 (.t 1 (.t 2 (.t 4 (.t 5 (.t 6 (.t 7 (.n 3 (.n 8 (.t 9 (.t 10 (.t 11 (.t 12 (.n 13 (.t 14 .nil))))))))))))))) qc qe (by kernel_rfl) (.dead (.cons .nil)) ?_
   refine ⟨by omega, by omega, ?_⟩
   refine ⟨by omega, by omega, ?_⟩
   refine ld1 1 rfl (qY _ _ _ _ hlt') ?_
   refine ld1 0 rfl (qcs _ _ _ _ _ _ hlt') ?_
   refine ⟨.dead (.cons .nil), ?_⟩
   refine qd9 rfl rfl rfl (fun w hs => sub64n (a / 18446744073709551616 ^ k % 18446744073709551616) (b / 18446744073709551616 ^ k % 18446744073709551616) c hc w) ?_
   refine ⟨.dead (.cons .nil), ?_⟩
   refine ⟨by omega, by omega, ?_⟩
   refine s1e 0 (row .u64 4 (mix 18446744073709551616 (D) a (k + 1))) rfl (QV _ _ _ _ hlt') (qaL _ _ _ _ _ _ _ h1.symm) ?_
   refine ⟨.dead (.cons .nil), ?_⟩
   refine .as ((k + 1 : Nat) : Int) (by (try push_cast); (try omega)) (by simp only [mn]; omega) (by simp only [mx]; omega) ?_
   exact ⟨(k + 1, _), ⟨by simp only; omega, bwN_lt _ _, h2⟩, by simp only; omega, ⟨⟨rfl, rfl, rfl, rfl, rfl, trivial⟩, .refl _, rfl⟩⟩
 · obtain rfl : k = 4 := by (try simp only at hge); omega
   simp only [Nat.reducePow] at hs
   obtain rfl : c = o := by omega
   clear hs hge hk hn
   obtain ⟨m, hm⟩ : ∃ m, qaG D c = m := ⟨_, rfl⟩
   rw [hm]
   refine lp qc (fun x : Nat × Nat => x.1 < 115792089237316195423570985008687907853269984665640564039457584007913129639936 ∧ x.2 < 2 ∧ qaG x.1 x.2 = m) (fun x => ⟨[(2, ptr b2), (4, ptr b4), (5, .int .u64 (x.2 : Int))], [cl b2 (e4 x.1) 180, dead, cl b4 (#[.int .u64 0, .int .u64 0, .int .u64 0, .int .u64 0] : Array Value) 180], []⟩) (fun x => if x.2 = 0 then 0 else if x.1 < 38 then 2 else 1) (D, c) ⟨hDl, ho2, hm⟩ ⟨⟨rfl, rfl, rfl, trivial⟩, by rw [qdW]; exact .cons (.dead (.cons .nil)), rfl⟩ ?_
   clear hm ho2 hc hDl
   rintro ⟨A, c⟩ ⟨hA, hc, hm⟩
   simp only at hA hc hm
   refine cd (fun hz => ?_) (fun hz => ?_)
   · obtain rfl : c = 1 := by omega
     obtain ⟨o, ho⟩ : ∃ o : Nat, o = if A < 38 then 1 else 0 := ⟨_, rfl⟩
     obtain ⟨D, hD⟩ : ∃ D : Nat, D = (A + 115792089237316195423570985008687907853269984665640564039457584007913129639936 - 38) % 115792089237316195423570985008687907853269984665640564039457584007913129639936 := ⟨_, rfl⟩
     have hn : A + o * 115792089237316195423570985008687907853269984665640564039457584007913129639936 = D + 38 := by rw [ho, hD]; split <;> omega
     have hDl : D < 115792089237316195423570985008687907853269984665640564039457584007913129639936 := by omega
     have ho2 : o < 2 := by rw [ho]; split <;> omega
     have he : e4 A = row .u64 4 (mix 18446744073709551616 D A 0) := qdX _ _ _ _ _
     obtain ⟨h1, h2⟩ := sub_dg (A + o * 115792089237316195423570985008687907853269984665640564039457584007913129639936) D 38 0 0 (by decide) (by simp only [Nat.pow_zero, Nat.div_one]; exact hn)
     rw [show (A + o * 115792089237316195423570985008687907853269984665640564039457584007913129639936) / 18446744073709551616 ^ 0 % 18446744073709551616 = A / 18446744073709551616 ^ 0 % 18446744073709551616 from Int.ofNat_inj.1 (dg_hi A o 0 (by decide))] at h1 h2
     refine ⟨by decide, by decide, ?_⟩
     refine ld1 0 rfl (v := .int .u64 (dg 18446744073709551616 A 0)) (qP _ _ _ 0 (by decide)) ?_
     refine qd9 rfl rfl rfl (fun w hs => sub64n (A / 18446744073709551616 ^ 0 % 18446744073709551616) 38 0 (by decide) w) ?_
     refine ⟨by decide, by decide, ?_⟩
     refine s1e 0 (row .u64 4 (mix 18446744073709551616 D A 1)) rfl (by rw [qd]; decide) (by rw [he]; exact qaL _ _ _ _ _ _ _ h1.symm) ?_
     refine lp qc (fun x : Nat × Nat => (1 ≤ x.1 ∧ x.1 ≤ 4) ∧ x.2 < 2 ∧ (A + o * 115792089237316195423570985008687907853269984665640564039457584007913129639936) / 18446744073709551616 ^ x.1 = D / 18446744073709551616 ^ x.1 + 38 / 18446744073709551616 ^ x.1 + x.2) (fun x => ⟨[(2, ptr b2), (4, ptr b4), (7, .int .u64 (x.2 : Int)), (8, .int .i64 (x.1 : Int))], [cl b2 (row .u64 4 (mix 18446744073709551616 D A x.1)) 180, dead, cl b4 (#[.int .u64 0, .int .u64 0, .int .u64 0, .int .u64 0] : Array Value) 180], []⟩) (fun x => 4 - x.1) (1, _) ⟨by omega, bwN_lt _ _, h2⟩ ⟨⟨rfl, rfl, rfl, rfl, trivial⟩, .refl _, rfl⟩ ?_
     clear h1 h2 he
     rintro ⟨k, c⟩ ⟨hk, hc, hs⟩
     simp only at hk hc hs
     refine cd (fun hlt => ?_) (fun hge => ?_)
     · have hlt' : k < 4 := by (try simp only at hlt); omega
       obtain ⟨h1, h2⟩ := sub_dg _ D 38 k c hc hs
       rw [show (A + o * 115792089237316195423570985008687907853269984665640564039457584007913129639936) / 18446744073709551616 ^ k % 18446744073709551616 = A / 18446744073709551616 ^ k % 18446744073709551616 from Int.ofNat_inj.1 (dg_hi A o k hlt'), show 38 / 18446744073709551616 ^ k % 18446744073709551616 = 0 by rw [Nat.div_eq_of_lt (Nat.lt_of_lt_of_le (by decide) (Nat.pow_le_pow_right (by decide) hk.1 : 18446744073709551616 ^ 1 ≤ _))]] at h1 h2
       refine ⟨by omega, by omega, ?_⟩
       refine ld1 0 rfl (qcs _ _ _ _ _ _ hlt') ?_
       refine qd9 rfl rfl rfl (fun w hs => sub64n (A / 18446744073709551616 ^ k % 18446744073709551616) 0 c hc w) ?_
       refine ⟨by omega, by omega, ?_⟩
       refine s1e 0 (row .u64 4 (mix 18446744073709551616 D A (k + 1))) rfl (QV _ _ _ _ hlt') (qaL _ _ _ _ _ _ _ h1.symm) ?_
       refine .as ((k + 1 : Nat) : Int) (by (try push_cast); (try omega)) (by simp only [mn]; omega) (by simp only [mx]; omega) ?_
       exact ⟨(k + 1, _), ⟨by simp only; omega, bwN_lt _ _, h2⟩, by simp only; omega, ⟨⟨rfl, rfl, rfl, rfl, trivial⟩, .refl _, rfl⟩⟩
     · obtain rfl : k = 4 := by (try simp only at hge); omega
       simp only [Nat.reducePow] at hs
       obtain rfl : c = o := by omega
       refine ⟨(D, c), ⟨hDl, hc, (res38_step A D c hA hDl hc hn).trans hm⟩, ?_, ⟨⟨rfl, rfl, rfl, trivial⟩, by rw [qdW]; exact .refl _, rfl⟩⟩
       simp only
       rw [ho]
       split <;> (try split) <;> (try split) <;> omega
   · obtain rfl : c = 0 := by omega
     refine ldN 0 rfl (qd _) ?_
     refine sN 2 rfl (by rw [qd]; rfl) (ql _) ?_ (by kernel_rfl)
     refine ldN 2 rfl (qd _) ?_
     exact rt (by rw [← hm]; rfl)
theorem qeR (a b : Nat) (ha : a < 115792089237316195423570985008687907853269984665640564039457584007913129639936) (hb : b < 115792089237316195423570985008687907853269984665640564039457584007913129639936) (w : World) : Calls Tryz.prog 174 #[.agg (e4 a), .agg (e4 b)] w (ElP ((a % PP + (PP - b % PP)) % PP) w) :=
 (minus_ex a b ha hb w).mono fun _ _ ⟨h1, h2⟩ => ⟨_, mnN_lt _ _, mnN_mod _ _ ha hb, h1, h2⟩
end
end Go.Proofs.YtbgefoamhdgnaaaGreatDoor
