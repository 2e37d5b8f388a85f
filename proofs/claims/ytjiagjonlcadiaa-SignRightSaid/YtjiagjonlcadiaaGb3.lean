/- For every seed the law SignPublic returns true; no condition. -/
import Derived.BigCall
import Derived.RangeFuncNested
import Derived.RangeFuncBound
import Derived.RangeFuncCalls
import Derived.RangeFuncLeaves
import Derived.RangeFuncBox
import Derived.RangeFuncFrom
import Derived.OrdersIn
import Derived.TacticsIn
import Derived.LoopIn
import Derived.LoopNIn
import Derived.Shelf.Abstract
import Derived.Shelf.RegionOpen
import Derived.WalkKit
import Derived.OwnWalkIn
import Derived.TacticsInMore
import Derived.Laws.MakeOwn
import Derived.Maps.AppendAt
import Derived.Laws.CopyOwn
import Derived.Test.YtjiagjonlcadiaaGb2
set_option maxRecDepth 100000
set_option maxHeartbeats 16000000
set_option linter.unusedVariables false
set_option linter.unusedSimpArgs false
section
namespace Go
variable {P : Program} {md : Region.Mode} {ops : Array Oper} {Q : Exit → Act → World → Prop} {f : Nat} {S : World → Prop}
abbrev tt : Bool := true
abbrev ff : Bool := false
def Enters (P : Program) (g : FuncId) : Prop := ∃ fn : Func, P.funcs[g]? = some fn ∧ (fn.name == "runtime.NumGoroutine") = false ∧ fn.body.isNone = false
theorem qcH {a : Act} {o : Oper} {c : Call} {x : Operand} {g : FuncId} {vl : List Value} (ho : o.op = .call c) (hc : c.callee = .value x) (hx : a.eval x = .func (.func g) #[] #[]) (he : Enters P g)
 (hv : c.args.toList.map a.eval = vl) (w : World) : (execOp a.eval o).run P w = .ok (.enter g vl.toArray) w := by
 obtain ⟨fn, h1, h2, h3⟩ := he
 have h4 : fn.name ≠ "runtime.NumGoroutine" := by simpa using h2
 have h5 : c.args.map a.eval = vl.toArray := by apply Array.ext'; rw [← hv]; simp
 unfold execOp
 simp only [ho, resolve, hc, hx, h5]
 cases hb : fn.body with
 | none => rw [hb] at h3; cases h3
 | some code => simp [Deferred.ofValue, invoke, callFunc, h1, h4, hb]
theorem qcx {a : Act} {o : Oper} {c : Call} {x : Operand} {g : FuncId} {vl : List Value} {w : World} {K : Act → World → Prop} {R : Ending → World → Prop} (ho : o.op = .call c) (hc : c.callee = .value x) (hx : a.eval x = .func (.func g) #[] #[]) (he : Enters P g)
 (hv : c.args.toList.map a.eval = vl) (h : Calls P g vl.toArray w R) (hR : ∀ e w', R e w' → ∃ v, e = .returned v ∧ K (a.put o.dst v) w') : o.wp P a w K Q := by
 unfold Oper.wp
 rw [qcH ho hc hx he hv w, Oper.upon_enter]
 refine h.mono fun e w' hr => ?_
 obtain ⟨v, rfl, hK⟩ := hR e w' hr
 exact hK
def Zu (P : Program) (md : Region.Mode) (ops : Array Oper) (Q : Exit → Act → World → Prop) (f : Nat) (S : World → Prop) (n : Nat) (listed : Array Bool) (a : Act) (w : World) (i : Nat) : Prop :=
 wpOp P ops Q i (fun a' w' => (i ≠ f → S w') ∧ Qq P md ops Q f S n (listed.setIfInBounds i true) a' w') a w
variable {n : Nat} {listed : Array Bool} {a : Act} {w : World}
theorem qk {i : Nat} (hr : Region.ready md ops listed = [i]) (h : Zu P md ops Q f S n listed a w i) : Qq P md ops Q f S (n + 1) listed a w := by
 refine ⟨fun h0 => (by rw [h0] at hr; cases hr), fun j hj => ?_⟩
 rw [hr] at hj
 obtain rfl : j = i := by simpa using hj
 exact h
theorem zw {i j : Nat} (hr : Region.ready md ops listed = [i, j]) (h1 : Zu P md ops Q f S n listed a w i) (h2 : Zu P md ops Q f S n listed a w j) : Qq P md ops Q f S (n + 1) listed a w := by
 refine ⟨fun h0 => (by rw [h0] at hr; cases hr), fun k hk => ?_⟩
 rw [hr] at hk
 simp only [List.mem_cons, List.not_mem_nil, or_false] at hk
 rcases hk with rfl | rfl
 · exact h1
 · exact h2
theorem bstep_any {i : Nat} {oi : Oper} (hi : ops[i]? = some oi)
 (h : ∀ K : Act → World → Prop, Shut (∀ a' w', (i ≠ f → S w') → Qq P md ops Q f S n (listed.setIfInBounds i true) a' w' → K a' w') → if Region.wanted oi (yielded ops a.tmps) = true then Oper.wp P oi a w K Q else K (a.put oi.dst undef) w) : Zu P md ops Q f S n listed a w i :=
 wpOp_step hi fun K hK => h K fun a' w' hS hW => hK a' w' ⟨hS, hW⟩
theorem ZO {i : Nat} {oi : Oper} (hi : ops[i]? = some oi) (hw : Region.wanted oi (yielded ops a.tmps) = true)
 (h : Oper.wp P oi a w (fun a' w' => (i ≠ f → S w') ∧ Qq P md ops Q f S n (listed.setIfInBounds i true) a' w') Q) : Zu P md ops Q f S n listed a w i :=
 wpOp_step hi fun K hK => by rw [if_pos hw]; exact Oper.wp_mono hK h
theorem bstep_call {i : Nat} {oi : Oper} {c : Call} {x : Operand} {g : FuncId} {vl : List Value} {R : Ending → World → Prop} (hi : ops[i]? = some oi) (hw : Region.wanted oi (yielded ops a.tmps) = true) (ho : oi.op = .call c) (hc : c.callee = .value x)
 (hx : a.eval x = .func (.func g) #[] #[]) (he : Enters P g) (hv : c.args.toList.map a.eval = vl) (h : Calls P g vl.toArray w R)
 (hR : ∀ e w', R e w' → ∃ v, e = .returned v ∧ (i ≠ f → S w') ∧ Qq P md ops Q f S n (listed.setIfInBounds i true) (a.put oi.dst v) w') : Zu P md ops Q f S n listed a w i :=
 ZO hi hw (qcx ho hc hx he hv h hR)
theorem bstep_store {i : Nat} {oi : Oper} (hi : ops[i]? = some oi) (hw : Region.wanted oi (yielded ops a.tmps) = true) (ty : TypeId) (x y : Operand) (ho : oi.op = .store ty x y)
 (g : Nat) (cells : Array Value) (hx : a.eval x = .pointer (some ⟨g, 0, none⟩)) (hy : a.eval y = .agg cells)
 (t : TypeId) (old : Array Value) (hg : w.heap[g]? = some (.cells old t (0, 0))) (hs : (P.info? ty).map (·.size) = some cells.size)
 (hold : old.size = cells.size) (h1 : cells.all (·.oneCell') = true)
 (h : (i ≠ f → S (w.setRow g cells)) ∧ Qq P md ops Q f S n (listed.setIfInBounds i true) (a.put oi.dst undef) (w.setRow g cells)) : Zu P md ops Q f S n listed a w i :=
 ZO hi hw (wp_store_row ty x y ho g cells hx hy t old hg hs hold h1 h)
theorem Qm {id : Nat} (f N : Nat) (l0 : Array Bool) (hm : P.follows .mixedOrders = true) (hN : ops.size = N) (hl : Array.replicate N false = l0)
 (h : ∀ W0 : World, W0 = w → Qq P .any ops Q f (fun w' => Go.RowKit.Below W0.heap.size W0 w') N l0 a W0.drew) : (Code.region id ops true).wp P Q a w :=
 zF f _ hm (by subst hl; subst hN; exact h w rfl)
theorem q7 {id : Nat} (S : World → Prop) (f N : Nat) (l0 : Array Bool) (hm : P.follows .mixedOrders = true) (hN : ops.size = N) (hl : Array.replicate N false = l0)
 (h : Qq P .any ops Q f S N l0 a w.drew) : (Code.region id ops true).wp P Q a w :=
 zF f S hm (by subst hl; subst hN; exact h)
theorem QN {oi : Oper} {d : Tmp} (hd : oi.dst = some d) (a : Act) (v : Value) : a.put oi.dst v = { a with tmps := a.tmps.setIfInBounds d v } := by rw [hd]; rfl
theorem qar {oi : Oper} (hd : oi.dst = none) (a : Act) (v : Value) : a.put oi.dst v = a := by rw [hd]; rfl
theorem go_take (i : Nat) (d : Tmp) (l' : Array Bool) {oi : Oper} {v : Value} (hi : ops[i]? = some oi) (hd : oi.dst = some d) (hl : listed.setIfInBounds i true = l') (hs : Region.noSelect ops = true) (hfr : Region.free md ops listed i = true)
 (hr : (Region.ready md ops listed).contains i = true) (hif : (i == f) = false) (hf : qbg md ops f i = true) (hy : YieldsIf P ops S oi v a) (hS : S w)
 (h : Qq P md ops (NoPanic Q) f S n l' { a with tmps := a.tmps.setIfInBounds d v } w) : Qq P md ops (NoPanic Q) f S (n + 1) listed a w :=
 Qw hi hs hfr hr hif hf (fun _ _ _ h => h) hy hS (by rw [QN hd, hl]; exact h)
def takeOk (md : Region.Mode) (ops : Array Oper) (listed : Array Bool) (f i : Nat) : Bool := Region.noSelect ops && Region.free md ops listed i && (Region.ready md ops listed).contains i && !(i == f) && qbg md ops f i
theorem qg {P : Program} {md : Region.Mode} {ops : Array Oper} {Q : Exit → Act → World → Prop} {f : Nat} {S : World → Prop} {n : Nat} {listed : Array Bool} {a : Act} {w : World} (i : Nat) (d : Tmp) (l' : Array Bool) {oi : Oper} {v : Value} (hi : ops[i]? = some oi) (hd : oi.dst = some d) (hl : listed.setIfInBounds i true = l') (hok : takeOk md ops listed f i = true) (hy : YieldsIf P ops S oi v a) (hS : S w)
 (h : Qq P md ops (NoPanic Q) f S n l' { a with tmps := a.tmps.setIfInBounds d v } w) : Qq P md ops (NoPanic Q) f S (n + 1) listed a w := by
 unfold takeOk at hok
 simp only [Bool.and_eq_true, Bool.not_eq_true'] at hok
 obtain ⟨⟨⟨⟨h1, h2⟩, h3⟩, h4⟩, h5⟩ := hok
 exact go_take i d l' hi hd hl h1 h2 h3 h4 h5 hy hS h
theorem sI {α : Type} (l : List α) (i : Nat) (a : α) : l.toArray.setIfInBounds i a = (l.set i a).toArray := List.setIfInBounds_toArray l i a
theorem sS {α : Type} (x : α) (l : List α) (i : Nat) (a : α) : (x :: l).set (i + 1) a = x :: l.set i a := List.set_cons_succ
theorem sZ {α : Type} (x : α) (l : List α) (a : α) : (x :: l).set 0 a = a :: l := List.set_cons_zero
theorem qt (w : World) : Go.RowKit.Below w.heap.size w w.drew := (Go.RowKit.Below.refl _ _).drew
theorem qE (i : Nat) (d : Tmp) (l' : Array Bool) {oi : Oper} {c : Call} {x : Operand} {g : FuncId} {vl : List Value} {R : Ending → World → Prop} (hi : ops[i]? = some oi) (hd : oi.dst = some d) (hl : listed.setIfInBounds i true = l') (hw : Region.wanted oi (yielded ops a.tmps) = true) (ho : oi.op = .call c) (hc : c.callee = .value x)
 (hx : a.eval x = .func (.func g) #[] #[]) (he : Enters P g) (hv : c.args.toList.map a.eval = vl) (h : Calls P g vl.toArray w R)
 (hR : ∀ e w', R e w' → ∃ v, e = .returned v ∧ (i ≠ f → S w') ∧ Qq P md ops Q f S n l' { a with tmps := a.tmps.setIfInBounds d v } w') : Zu P md ops Q f S n listed a w i :=
 bstep_call hi hw ho hc hx he hv h fun e w' hr => let ⟨v, h1, h2, h3⟩ := hR e w' hr; ⟨v, h1, h2, by rw [QN hd, hl]; exact h3⟩
theorem ZM (i : Nat) (l' : Array Bool) {oi : Oper} (hi : ops[i]? = some oi) (hd : oi.dst = none) (hl : listed.setIfInBounds i true = l') (hw : Region.wanted oi (yielded ops a.tmps) = true) (ty : TypeId) (x y : Operand) (ho : oi.op = .store ty x y)
 (g : Nat) (cells : Array Value) (hx : a.eval x = .pointer (some ⟨g, 0, none⟩)) (hy : a.eval y = .agg cells)
 (t : TypeId) (old : Array Value) (hg : w.heap[g]? = some (.cells old t (0, 0))) (hs : (P.info? ty).map (·.size) = some cells.size)
 (hold : old.size = cells.size) (h1 : cells.all (·.oneCell') = true)
 (h : (i ≠ f → S (w.setRow g cells)) ∧ Qq P md ops Q f S n l' a (w.setRow g cells)) : Zu P md ops Q f S n listed a w i :=
 bstep_store hi hw ty x y ho g cells hx hy t old hg hs hold h1 ⟨h.1, by rw [qar hd, hl]; exact h.2⟩
theorem go_any (i : Nat) (l' : Array Bool) {oi : Oper} (hi : ops[i]? = some oi) (hl : listed.setIfInBounds i true = l')
 (h : ∀ K : Act → World → Prop, Shut (∀ a' w', (i ≠ f → S w') → Qq P md ops Q f S n l' a' w' → K a' w') → if Region.wanted oi (yielded ops a.tmps) = true then Oper.wp P oi a w K Q else K (a.put oi.dst undef) w) : Zu P md ops Q f S n listed a w i :=
 bstep_any hi (by rw [hl]; exact h)
theorem QO (i : Nat) (d : Tmp) (l' : Array Bool) {oi : Oper} (hi : ops[i]? = some oi) (hd : oi.dst = some d) (hl : listed.setIfInBounds i true = l') (hw : Region.wanted oi (yielded ops a.tmps) = true) (ty : TypeId) (ho : oi.op = .alloc ty) (Z : Array Value)
 (hz : ∀ w : World, (Instr.alloc ty true (.tuple #[])).run P w = .ok (.pointer (some ⟨w.heap.size, 0, none⟩)) (w.alloc (.cells Z ty)))
 (h : ∀ w2, w2 = w.alloc (.cells Z ty) → (i ≠ f → S w2) ∧ Qq P md ops Q f S n l' { a with tmps := a.tmps.setIfInBounds d (.pointer (some ⟨w.heap.size, 0, none⟩)) } w2) : Zu P md ops Q f S n listed a w i := by
 refine ZO hi hw ?_
 unfold Oper.wp execOp
 simp only [ho, Sem.run_bind, Sem.run_pure, hz, Result.andThen_ok]
 have := h _ rfl
 rw [← QN hd, ← hl] at this
 exact this
theorem qZ (i : Nat) (l' : Array Bool) {oi : Oper} (hi : ops[i]? = some oi) (hd : oi.dst = none) (hl : listed.setIfInBounds i true = l') (hw : Region.wanted oi (yielded ops a.tmps) = true) (ty : TypeId) (x y : Operand) (ho : oi.op = .store ty x y)
 (g : Nat) (cells : Array Value) (hx : a.eval x = .pointer (some ⟨g, 0, none⟩)) (hy : a.eval y = .agg cells)
 (t : TypeId) (old : Array Value) (hg : w.heap[g]? = some (.cells old t (0, 0))) (hs : (P.info? ty).map (·.size) = some cells.size)
 (hold : old.size = cells.size) (h1 : cells.all (·.oneCell') = true)
 (h : ∀ w2, w2 = w.setRow g cells → (i ≠ f → S w2) ∧ Qq P md ops Q f S n l' a w2) : Zu P md ops Q f S n listed a w i :=
 ZM i l' hi hd hl hw ty x y ho g cells hx hy t old hg hs hold h1 (h _ rfl)
theorem Zb {α : Type} {P : Program} {ops : Array Oper} {Q : Exit → Act → World → Prop} {id : Nat} {b : Bool} {a : Act} {w : World} (C : World → α → World → Prop) (F : Act → α → Act)
 (h : ∀ Q' : Exit → Act → World → Prop, (∀ x w', C w x w' → Q' .normal (F a x) w') → (Code.region id ops b).wp P Q' a w) (hQ : ∀ W0 x w', W0 = w → C W0 x w' → Q .normal (F a x) w') : (Code.region id ops b).wp P Q a w :=
 h Q fun x w' hC => hQ w x w' rfl hC
theorem qv {rest : List Oper} {o : Oper} (hw : Region.wanted o (yielded ops a.tmps) = true) (ty : TypeId) (x : Operand) (ho : o.op = .load ty x) (g : Nat) (hx : a.eval x = .pointer (some ⟨g, 0, none⟩)) (t : TypeId) (cs : Array Value)
 {d : TypeDesc} (hg : w.heap[g]? = some (.cells cs t (0, 0))) (hu : P.underlying ty = some d) (hd : (match d with | .struct _ | .array _ _ => true | _ => false) = true) (hi : (P.info? ty).map (·.size) = some cs.size)
 (e : Tmp) (he : o.dst = some e) (h : wpList P ops Q rest { a with tmps := a.tmps.setIfInBounds e (.agg cs) } w) : wpList P ops Q (o :: rest) a w := by
 have hy := qj (ops := ops) (S := fun w' => w' = w) hw ty x ho g hx t cs (fun w' h' => by rw [h']; exact hg) hu hd hi
 rcases hy with ⟨_, h1⟩ | ⟨h1, _⟩
 · refine wpList_step fun K hK => ?_
   rw [if_pos hw]
   unfold Oper.wp
   rw [h1 w rfl, Oper.upon_value]
   refine hK _ _ ?_
   rw [QN he]; exact h
 · rw [hw] at h1; cases h1
theorem qm {rest : List Oper} {o : Oper} {c : Call} {x : Operand} {g : FuncId} {vl : List Value} {R : Ending → World → Prop} (hw : Region.wanted o (yielded ops a.tmps) = true) (ho : o.op = .call c) (hc : c.callee = .value x)
 (hx : a.eval x = .func (.func g) #[] #[]) (he : Enters P g) (hv : c.args.toList.map a.eval = vl) (h : Calls P g vl.toArray w R)
 (d : Tmp) (hd : o.dst = some d) (hR : ∀ e w', R e w' → ∃ v, e = .returned v ∧ wpList P ops Q rest { a with tmps := a.tmps.setIfInBounds d v } w') : wpList P ops Q (o :: rest) a w :=
 wpList_step fun K hK => by
  rw [if_pos hw]
  exact Oper.wp_mono hK (qcx ho hc hx he hv h fun e w' hr => let ⟨v, h1, h2⟩ := hR e w' hr; ⟨v, h1, by rw [QN hd]; exact h2⟩)
end Go
namespace Go.Proofs.Ytjiagjonlcadiaa
def z36 : Array Value := (#[.int .u64 0, .int .u64 0, .int .u64 0, .int .u64 0] : Array Value)
theorem qcj (w : World) : (Instr.alloc 36 true (.tuple #[])).run Try.prog w = .ok (.pointer (some ⟨w.heap.size, 0, none⟩)) (w.alloc (.cells z36 36)) := by
 unfold z36
 go_simp
def z40 : Array Value := (#[.int .i64 0, .int .i64 0, .int .i64 0, .int .i64 0, .int .i64 0, .int .i64 0, .int .i64 0, .int .i64 0, .int .i64 0, .int .i64 0, .int .i64 0, .int .i64 0, .int .i64 0, .int .i64 0, .int .i64 0, .int .i64 0, .int .i64 0, .int .i64 0, .int .i64 0, .int .i64 0, .int .i64 0, .int .i64 0] : Array Value)
theorem qbd (w : World) : (Instr.alloc 40 true (.tuple #[])).run Try.prog w = .ok (.pointer (some ⟨w.heap.size, 0, none⟩)) (w.alloc (.cells z40 40)) := by
 unfold z40
 go_simp
def z24 : Array Value := (#[.int .u8 0, .int .u8 0, .int .u8 0, .int .u8 0, .int .u8 0, .int .u8 0, .int .u8 0, .int .u8 0, .int .u8 0, .int .u8 0, .int .u8 0, .int .u8 0, .int .u8 0, .int .u8 0, .int .u8 0, .int .u8 0, .int .u8 0, .int .u8 0, .int .u8 0, .int .u8 0, .int .u8 0, .int .u8 0, .int .u8 0, .int .u8 0, .int .u8 0, .int .u8 0, .int .u8 0, .int .u8 0, .int .u8 0, .int .u8 0, .int .u8 0, .int .u8 0] : Array Value)
theorem al24 (w : World) : (Instr.alloc 24 true (.tuple #[])).run Try.prog w = .ok (.pointer (some ⟨w.heap.size, 0, none⟩)) (w.alloc (.cells z24 24)) := by
 unfold z24
 go_simp
end Go.Proofs.Ytjiagjonlcadiaa
end
namespace Go.Sx
section
open Go Go.RowKit
variable {C : Cx} {ops : Array Oper} {L0 : List Ent} {Q : Act → World → Prop}
def Inc (σ τ : Fr) : Prop := ∀ i v, get σ i = some v → get τ i = some v
theorem Inc.put {σ τ : Fr} (h : Inc σ τ) (N : Nat) (d : Option Nat) (v : Value) : Inc (put N d v σ) (put N d v τ) := fun i u hu => by
 rw [qaS] at hu ⊢
 split at hu
 · rename_i hc; rw [if_pos hc]; exact hu
 · rename_i hc; rw [if_neg hc]; exact h i u hu
theorem dG_mono (n : Nat) : ∀ (l : Array Bool) (s s' : Sy), Sub L0 s'.L → Inc s.σ s'.σ → (∀ w, St C.M C.B w s'.L → St C.M C.B w s.L) → s.D = s'.D → dG C ops L0 [] Q n l s → dG C ops L0 [] Q n l s' := by
 have fit : ∀ (s s' : Sy) (a : Act), Inc s.σ s'.σ → s.D = s'.D → Fits C.N s' a → Fits C.N s a := fun s s' a hi hd hf => ⟨hf.size, hf.defers.trans hd.symm, fun i v hv => hf.slot i v (hi i v hv)⟩
 induction n with
 | zero => intro l s s' _ hi hL hD h; exact ⟨h.1, fun a w hf hs => h.2 a w (fit s s' a hi hD hf) (hL w hs)⟩
 | succ n ih =>
  intro l s s' hA hi hL hD h
  refine ⟨fun h0 a w hf hs => h.1 h0 a w (fit s s' a hi hD hf) (hL w hs), fun j hj o ho a w hf hs => ?_⟩
  have h1 := h.2 j hj o ho a w (fit s s' a hi hD hf) (hL w hs)
  refine ⟨fun hw => Fin.mono (fun v L' hk => ?_) (h1.1 hw), fun hw => ?_⟩
  · exact ⟨hk.1, ih _ ⟨put C.N o.dst v s.σ, L', s.D⟩ ⟨put C.N o.dst v s'.σ, L', s'.D⟩ (hk.1 rfl) (hi.put _ _ _) (fun _ h => h) hD hk.2⟩
  · exact ⟨fun _ => hA, ih _ ⟨put C.N o.dst undef s.σ, s.L, s.D⟩ ⟨put C.N o.dst undef s'.σ, s'.L, s'.D⟩ hA (hi.put _ _ _) hL hD (h1.2 hw).2⟩
structure GR (C : Cx) (ops : Array Oper) (L0 : List Ent) (K : Sy → Prop) (T : Nat → Array Bool → Sy → Prop) : Prop where
 fin : ∀ m l s, Region.ready .any ops l = [] → K s → T m l s
 one : ∀ m l s i, Region.ready .any ops l = [i] → Sub L0 s.L → dn C ops L0 [] i (T m (l.setIfInBounds i true)) s → T (m + 1) l s
 two : ∀ m l s i j, Region.ready .any ops l = [i, j] → Sub L0 s.L → dn C ops L0 [] i (T m (l.setIfInBounds i true)) s → dn C ops L0 [] j (T m (l.setIfInBounds j true)) s → T (m + 1) l s
 three : ∀ m l s i j k, Region.ready .any ops l = [i, j, k] → Sub L0 s.L → dn C ops L0 [] i (T m (l.setIfInBounds i true)) s → dn C ops L0 [] j (T m (l.setIfInBounds j true)) s → dn C ops L0 [] k (T m (l.setIfInBounds k true)) s → T (m + 1) l s
 four : ∀ m l s i j k q, Region.ready .any ops l = [i, j, k, q] → Sub L0 s.L → dn C ops L0 [] i (T m (l.setIfInBounds i true)) s → dn C ops L0 [] j (T m (l.setIfInBounds j true)) s → dn C ops L0 [] k (T m (l.setIfInBounds k true)) s → dn C ops L0 [] q (T m (l.setIfInBounds q true)) s → T (m + 1) l s
 mono : ∀ m l s s', Sub L0 s'.L → leF s.σ s'.σ → (∃ L', s.L.Perm L' ∧ Sub L' s'.L) → s.D = s'.D → T m l s → T m l s'
theorem GR.go {K : Sy → Prop} {T : Nat → Array Bool → Sy → Prop} (g : GR C ops L0 K T) {m : Nat} {l : Array Bool} {s s' : Sy} (h : T m l s) (hs : Sub L0 s'.L) (hle : leF s.σ s'.σ) (hp : ∃ L', s.L.Perm L' ∧ Sub L' s'.L) (hd : s.D = s'.D) : T m l s' := g.mono m l s s' hs hle hp hd h
theorem gr_dG (hT : TabOk C.P C.T) (K : Sy → Prop) : GR C ops L0 K (dG C ops L0 [] (zQ C K)) := by
 have step : ∀ (n : Nat) (l : Array Bool) (s : Sy) (i : Nat), Sub L0 s.L → dn C ops L0 [] i (dG C ops L0 [] (zQ C K) n (l.setIfInBounds i true)) s → ∀ o, ops[i]? = some o → ∀ a w, Fits C.N s a → St C.M C.B w s.L →
  StepG C ops o a w s.L fun u L' => (Qz i [] = false → Sub L0 L') ∧ dG C ops L0 [] (zQ C K) n (l.setIfInBounds i true) ⟨put C.N o.dst u s.σ, L', s.D⟩ :=
  fun n l s i hi h => dn_ok hT h (fun s' _ h => h) (.inl hi)
 refine ⟨fun m l s h0 hk => ?_, fun m l s i hr hs h => ?_, fun m l s i j hr hs h1 h2 => ?_, fun m l s i j k hr hs h1 h2 h3 => ?_, fun m l s i j k q0 hr hs h1 h2 h3 h4 => ?_, fun m l s s' hA hle ⟨L', hp, hs⟩ hD h => dG_mono m l s s' hA (leF_get hle) (fun w hw => (hw.sub hs).perm hp) hD h⟩
 · cases m with
   | zero => exact ⟨h0, fun a w hf hs => ⟨s, hf, hs, hk⟩⟩
   | succ n => exact ⟨fun _ a w hf hs => ⟨s, hf, hs, hk⟩, fun j hj => by rw [h0] at hj; cases hj⟩
 · refine ⟨fun h0 => (by rw [hr] at h0; cases h0), fun q hq => ?_⟩
   rw [hr] at hq
   obtain rfl : q = i := by simpa using hq
   exact step m l s q hs h
 · refine ⟨fun h0 => (by rw [hr] at h0; cases h0), fun q hq => ?_⟩
   rw [hr] at hq
   have : q = i ∨ q = j := by simpa using hq
   rcases this with rfl | rfl
   · exact step m l s q hs h1
   · exact step m l s q hs h2
 · refine ⟨fun h0 => (by rw [hr] at h0; cases h0), fun q hq => ?_⟩
   rw [hr] at hq
   have : q = i ∨ q = j ∨ q = k := by simpa using hq
   rcases this with rfl | rfl | rfl
   · exact step m l s q hs h1
   · exact step m l s q hs h2
   · exact step m l s q hs h3
 · refine ⟨fun h0 => (by rw [hr] at h0; cases h0), fun q hq => ?_⟩
   rw [hr] at hq
   have : q = i ∨ q = j ∨ q = k ∨ q = q0 := by simpa using hq
   rcases this with rfl | rfl | rfl | rfl
   · exact step m l s q hs h1
   · exact step m l s q hs h2
   · exact step m l s q hs h3
   · exact step m l s q hs h4
def odT : List Nat → Od
 | [] => .nil
 | i :: l => .t i (odT l)
def lst (l : Array Bool) : List Nat → Array Bool
 | [] => l
 | i :: ts => lst (l.setIfInBounds i true) ts
def tsOk (ops : Array Oper) : List Nat → Array Bool → Bool
 | [], _ => true
 | i :: ts, l => tOk ops [] l i && tsOk ops ts (l.setIfInBounds i true)
theorem dx_ts (hT : TabOk C.P C.T) (hsel : Region.noSelect ops = true) {K : Sy → Prop} (ts : List Nat) : ∀ (n : Nat) (l : Array Bool) (s : Sy), Shut ops l → tsOk ops ts l = true → Sub L0 s.L →
 dx C ops L0 [] (odT ts) (dG C ops L0 [] (zQ C K) n (lst l ts)) s → dG C ops L0 [] (zQ C K) (n + ts.length) l s := by
 induction ts with
 | nil => intro n l s _ _ _ h; exact h
 | cons i ts ih =>
  intro n l s hsh hok hsb h
  simp only [tsOk, Bool.and_eq_true] at hok
  obtain ⟨hk, hr⟩ := hok
  simp only [tOk, Bool.and_eq_true, Bool.not_eq_true'] at hk
  obtain ⟨⟨⟨k1, k2⟩, k3⟩, k4⟩ := hk
  obtain ⟨σ, L, D⟩ := s
  change dt C ops L0 i (dx C ops L0 [] (odT ts) (dG C ops L0 [] (zQ C K) n (lst (l.setIfInBounds i true) ts))) ⟨σ, L, D⟩ at h
  simp only [dt, opAt, qcm] at h
  split at h
  · rename_i o ho
    have hf' : ∀ j, Qz j [] = true → (ops[j]?).isSome = true → Dep ops i j := fun j hj hs => qdx (allN_mem k4 hj) hs
    have hrd : i ∈ Region.ready .any ops l := by simpa using k2
    obtain ⟨b, hp, hq, hb⟩ := gd_ok (C := C) (s := ⟨σ, L, D⟩) h
    rw [List.length_cons, ← Nat.add_assoc]
    cases b with
    | false => exact qct (v := undef) ho hsel k3 hf' _ l _ hsh (Region.free_spec ho k1) hrd hsb (fun a ha => .inr ⟨hb a ha, rfl⟩) (ih n _ _ (hsh.next hrd) hr hsb (hq rfl))
    | true =>
     have key : ∃ v, dx C ops L0 [] (odT ts) (dG C ops L0 [] (zQ C K) n (lst (l.setIfInBounds i true) ts)) ⟨put C.N o.dst v σ, L, D⟩ ∧ ∀ a, Fits C.N ⟨σ, L, D⟩ a → ∀ w, St C.M C.B w L0 → FinT C v w ((execOp a.eval o).run C.P w) := by
      obtain ⟨v, hv, hr'⟩ := tkV_ok hT (qdO σ) (hp rfl)
      refine ⟨v, hv, fun a ha w hs => ?_⟩
      rw [execOp_congr o (fun cs b => Region.noSelect_spec hsel i o cs b ho) (fun x hx => canon_eq ha (qdz (hp rfl) x hx))]
      exact hr' w hs
     obtain ⟨v, hv, hr'⟩ := key
     exact qct (v := v) ho hsel k3 hf' _ l _ hsh (Region.free_spec ho k1) hrd hsb (fun a ha => .inl ⟨hb a ha, hr' a ha⟩) (ih n _ _ (hsh.next hrd) hr hsb hv)
  · exact h.elim
theorem drg (L0 : List Ent) (ts : List Nat) (m : Nat) (hT : TabOk C.P C.T) {id : Nat} {K : Exit → Sy → Prop} {s : Sy} (hm : C.P.follows .mixedOrders = true) (hn : m + ts.length = ops.size)
 (hok : (Region.noSelect ops && tsOk ops ts (Array.replicate ops.size false)) = true) (hL : Sub L0 s.L)
 (h : ∀ T : Nat → Array Bool → Sy → Prop, GR C ops L0 (K .normal) T → dx C ops L0 [] (odT ts) (T m (lst (Array.replicate ops.size false) ts)) s) : qce C id ops K s := by
 simp only [Bool.and_eq_true] at hok
 obtain ⟨h1, h3⟩ := hok
 refine ⟨fun n a w hf hs => ?_⟩
 have hsh : Shut ops (Array.replicate ops.size false) := by
  intro j o ho hj
  have hlt : j < ops.size := (Array.getElem?_eq_some_iff.1 ho).1
  simp [hlt] at hj
 have h4 := dx_ts hT h1 ts m (Array.replicate ops.size false) s hsh h3 hL (h _ (gr_dG hT (K .normal)))
 rw [hn] at h4
 exact wpIn_region_any hm (dG_any (Q' := Qof C K) (fun a w hq => hq) _ _ _ h4 a _ hf hs.drew)
theorem qB {α : Type} (X1 : List α) (e : α) (X2 : List α) : (X1 ++ e :: X2).Perm (X1 ++ X2 ++ [e]) := by
 rw [List.append_assoc]
 exact (List.perm_append_comm (l₁ := [e]) (l₂ := X2)).append_left X1
end
end Go.Sx
namespace Go.Proofs.Ytjiagjonlcadiaa
section
open Go.RowKit Go.Sx
def rt1 (a : Nat) : Nat := pwm a ((PP + 3) / 2 / 2 / 2)
def rti : Nat := pwm (2 % PP) ((PP - 1 % PP) / 2 / 2)
def rt2 (a : Nat) : Nat := if rt1 a * rt1 a % PP = a then rt1 a else rt1 a * rti % PP
def Qy (a : Nat) : Bool := decide (rt2 a * rt2 a % PP = a)
def rt3 (a : Nat) : Nat := if Qy a then (if rt2 a % 2 = 1 then PP - rt2 a else rt2 a) else 0
theorem zy : _root_.Go.Enters Try.prog 32 := ⟨_, Try.func32, by kernel_rfl, by kernel_rfl⟩
theorem ent35 : _root_.Go.Enters Try.prog 35 := ⟨_, Try.func35, by kernel_rfl, by kernel_rfl⟩
theorem zb (x : Nat) (h : x < PP) : x < 4096 ^ 22 := Nat.lt_trans h qai
end
section
open Go.RowKit Go.Lib
def e4 (n : Nat) : Array Value := row .u64 4 (dg 18446744073709551616 n)
theorem qd (n : Nat) : (e4 n).size = 4 := QG _ _ _
def ElP (r : Nat) (w : World) (e : Ending) (w' : World) : Prop := ∃ m : Nat, m < 115792089237316195423570985008687907853269984665640564039457584007913129639936 ∧ m % PP = r ∧ e = .returned (.agg (e4 m)) ∧ Below w.heap.size w w'
theorem qbL (n i : Nat) : 0 ≤ dg 18446744073709551616 n i := (zV _ n i (by decide)).1
theorem qbh (n i : Nat) : dg 18446744073709551616 n i < 18446744073709551616 := (zV _ n i (by decide)).2
theorem qb8 : (18446744073709551616 : Int) ^ 4 = 115792089237316195423570985008687907853269984665640564039457584007913129639936 := by decide +kernel
theorem n64_4 : (18446744073709551616 : Nat) ^ 4 = 115792089237316195423570985008687907853269984665640564039457584007913129639936 := by decide +kernel
theorem qcC (n : Nat) (h : n < 115792089237316195423570985008687907853269984665640564039457584007913129639936) : qr 18446744073709551616 (dg 18446744073709551616 n) 4 = n := by
 have := Q7 18446744073709551616 n 4
 rw [n64_4, Nat.mod_eq_of_lt h] at this
 exact this
theorem qcb (h : Nat → Int) (hd : ∀ j, j < 4 → 0 ≤ h j ∧ h j < 18446744073709551616) : ∃ m : Nat, m < 115792089237316195423570985008687907853269984665640564039457584007913129639936 ∧ row .u64 4 h = e4 m ∧ qr 18446744073709551616 h 4 = m := by
 have h0 := Qk 18446744073709551616 (by decide) h 4 (fun i hi => (hd i hi).1)
 have h1 := ZQ 18446744073709551616 (by decide) h 4 (fun i hi => (hd i hi).2)
 rw [qb8] at h1
 obtain ⟨m, hm⟩ := Int.eq_ofNat_of_zero_le h0
 refine ⟨m, by omega, Qb _ _ _ _ (zo 18446744073709551616 h m 4 hd hm), hm⟩
theorem mod38 (A A' o o' : Nat) (h : A' + o' * 115792089237316195423570985008687907853269984665640564039457584007913129639936 = A + 38 * o) : (A' + o' * 115792089237316195423570985008687907853269984665640564039457584007913129639936) % PP = (A + o * 115792089237316195423570985008687907853269984665640564039457584007913129639936) % PP := by
 have e : 115792089237316195423570985008687907853269984665640564039457584007913129639936 = 38 + 2 * PP := by decide +kernel
 rw [h, e, Nat.mul_add, ← Nat.add_assoc, show o * (2 * PP) = PP * (2 * o) by ac_rfl, Nat.add_mul_mod_self_left, Nat.mul_comm 38 o]
theorem fold_step (S D g c r q : Int) (F : Int) (h : S + c * D = F) (hr : g + c = r + 18446744073709551616 * q) : (S + r * D) + q * (D * 18446744073709551616) = F + g * D := by
 have : g = r + 18446744073709551616 * q - c := by omega
 subst this; grind
theorem fold_any (n o : Nat) (hn : n < 115792089237316195423570985008687907853269984665640564039457584007913129639936) (ho : o < 18446744073709551616) (w : World) :
 Calls Try.prog 77 #[.agg (e4 n), .int .u64 o] w (ElP ((n + o * 115792089237316195423570985008687907853269984665640564039457584007913129639936) % PP) w) := by
 obtain ⟨r, hr⟩ : ∃ r, r = (n + o * 115792089237316195423570985008687907853269984665640564039457584007913129639936) % PP := ⟨_, rfl⟩
 rw [← hr]
 have Hn := Lib.hid hn; clear hn
 have Ho := Lib.hid ho; clear ho
 have Hr := Lib.hid hr; clear hr
 go_enter Try.func77, Try.ntmps77
 go_wp2_with fail
 go_loopg [1] (n + o * 115792089237316195423570985008687907853269984665640564039457584007913129639936) (fun gk s wr => ∃ A ov : Nat, gk = A + ov * 115792089237316195423570985008687907853269984665640564039457584007913129639936 ∧ gk % PP = r ∧ A < 115792089237316195423570985008687907853269984665640564039457584007913129639936 ∧ ov < 18446744073709551616 ∧ s = .int .u64 ov ∧ Has wr w.heap.size (e4 A) 36 ∧ HasN wr (w.heap.size + 1) 4 36 ∧ Below w.heap.size w wr)
 case atStart => exact ⟨n, o, rfl, Hr.out.symm, Hn.out, Ho.out, rfl, (Has.new _ _ _).alloc _, HasN.new1 _ _ _ _ 4 rfl, Qx _ _ _⟩
 case round =>
  obtain ⟨A, ov, hgk, hmod, hA, hov, rfl, m0, m1, hB⟩ := hrel
  by_cases hz : 0 < ov
  · have hdec : (A : Int) = qr 18446744073709551616 (dg 18446744073709551616 A) 4 := (qcC A hA).symm
    have hm := fun w => mul64 (ov : Int) 38 (by omega) (by omega) (by omega) (by omega) w
    obtain ⟨hi, hhi⟩ : ∃ x : Int, x = (ov : Int) * 38 / 18446744073709551616 := ⟨_, rfl⟩
    obtain ⟨lo, hlo⟩ : ∃ x : Int, x = (ov : Int) * 38 % 18446744073709551616 := ⟨_, rfl⟩
    rw [← hhi, ← hlo] at hm
    have hi0 : 0 ≤ hi := by omega
    have hi1 : hi ≤ 37 := by omega
    have lo0 : 0 ≤ lo := by omega
    have lo1 : lo < 18446744073709551616 := by omega
    have hsplit : lo + hi * 18446744073709551616 = 38 * (ov : Int) := by omega
    have M0 := Lib.hid m0; clear m0
    have M1 := Lib.hid m1; clear m1
    have Hgk := Lib.hid hgk; clear hgk
    have Hmod := Lib.hid hmod; clear hmod
    have HA := Lib.hid hA; clear hA
    have Hdec := Lib.hid hdec; clear hdec
    have Hm := Lib.hid hm; clear hm
    have Hsplit := Lib.hid hsplit; clear hsplit
    clear hhi hlo
    go_wp2_with fail
    refine (Hm.out _).mono ?_
    rintro e w2 ⟨rfl, rfl⟩
    go_wp2_with fail
    obtain ⟨w3, rfl⟩ : ∃ w3 : World, w3 = wr := ⟨_, rfl⟩
    go_loopw [6, 15] (fun s i wr => ∃ (k : Nat) (h : Nat → Int) (c : Int), k ≤ 4 ∧ i = .int .i64 k ∧ s = .int .u64 c ∧ 0 ≤ c ∧ c < 18446744073709551616 ∧ (1 ≤ k → c ≤ 38) ∧ (∀ j, j < k → 0 ≤ h j ∧ h j < 18446744073709551616) ∧ (∀ j, k ≤ j → h j = dg 18446744073709551616 A j) ∧ qr 18446744073709551616 h k + c * 18446744073709551616 ^ k = qr 18446744073709551616 (dg 18446744073709551616 A) k + (if k = 0 then lo else 38 * (ov : Int)) ∧ Has wr w.heap.size (row .u64 4 h) 36 ∧ HasN wr (w.heap.size + 1) 4 36 ∧ Below w.heap.size w wr) (fun _ i _ => 4 - (intOf i).toNat)
    case atStart => exact ⟨0, dg 18446744073709551616 A, lo, by omega, rfl, rfl, lo0, lo1, fun h => by omega, fun j hj => by omega, fun _ _ => rfl, by simp [qr], M0.out, M1.out, hB⟩
    case round =>
     clear M0 M1 hB
     obtain ⟨k, h, c, hk, rfl, rfl, c0, c1, hc, hd, hg, hs, m0, m1, hB⟩ := hrel
     have M0 := Lib.hid m0; clear m0
     have M1 := Lib.hid m1; clear m1
     have Hc := Lib.hid hc; clear hc
     have Hd := Lib.hid hd; clear hd
     have Hg := Lib.hid hg; clear hg
     have Hs := Lib.hid hs; clear hs
     by_cases hlt : k < 4
     · have h1 := M0.out.cell k hlt
       have hfz := M0.out.frozen k
       have x0 := qbL A k
       have x1 := qbh A k
       rw [Hg.out k (Nat.le_refl _)] at h1
       obtain ⟨x, hx⟩ : ∃ x, x = dg 18446744073709551616 A k := ⟨_, rfl⟩
       rw [← hx] at h1 x0 x1
       have ka := fun w => qbJ x c x0 c0 w
       obtain ⟨s, hss⟩ : ∃ s, s = (x + c) % 18446744073709551616 := ⟨_, rfl⟩
       obtain ⟨d, hdd⟩ : ∃ d, d = (x + c) / 18446744073709551616 := ⟨_, rfl⟩
       rw [← hss, ← hdd] at ka
       have s0 : 0 ≤ s := by omega
       have s1 : s < 18446744073709551616 := by omega
       have d0 : 0 ≤ d := by omega
       have d1 : d ≤ 1 := by omega
       have hsum : x + c = s + 18446744073709551616 * d := by omega
       have Hx := Lib.hid hx; clear hx
       have Hsum := Lib.hid hsum; clear hsum
       clear hss hdd
       by_cases hk0 : k = 0
       · subst hk0
         go_wp2_with fail
         go_roundw
         case measure => simp [intOf]
         case rel =>
          refine ⟨1, upd h 0 s, d + hi, by omega, by go_num, rfl, by omega, by omega, fun _ => by omega, ?_, ?_, ?_, M0.out.set _ _, M1.out.other _ _ (by simp <;> omega), by first | exact hB.setCell (Nat.le_refl _) _ | exact (hB.setCell (Nat.le_refl _) _).drew⟩
          · intro j hj
            obtain rfl : j = 0 := by omega
            rw [qw]; exact ⟨s0, s1⟩
          · intro j hj; rw [qD _ _ _ _ (by omega)]; exact Hg.out j (by omega)
          · have := Hsum.out
            have h3 := Hsplit.out
            have h4 := Hs.out
            simp only [qr, qw, Int.pow_zero, Int.mul_one, Int.zero_add, if_true, Int.pow_one] at h4 ⊢
            rw [if_neg (by decide), ← Hx.out]
            omega
       · have ht : ((k : Int) == 0) = false := by simp; omega
         go_wp2_with fail
         go_roundw
         case measure => simp [intOf]; omega
         case rel =>
          refine ⟨k + 1, upd h k s, d, by omega, by go_num, rfl, by omega, by omega, fun _ => by omega, ?_, ?_, ?_, M0.out.set _ _, M1.out.other _ _ (by simp <;> omega), by first | exact hB.setCell (Nat.le_refl _) _ | exact (hB.setCell (Nat.le_refl _) _).drew⟩
          · intro j hj
            by_cases e : j = k
            · subst e; rw [qw]; exact ⟨s0, s1⟩
            · rw [qD _ _ _ _ e]; exact Hd.out j (by omega)
          · intro j hj; rw [qD _ _ _ _ (by omega)]; exact Hg.out j (by omega)
          · have h4 := Hs.out
            rw [if_neg hk0] at h4
            rw [if_neg (by omega)]
            simp only [qr]
            rw [qU _ _ _ _ _ (Nat.le_refl _), qw, ← Hx.out, Int.pow_succ]
            have := fold_step _ _ x _ _ _ _ h4 Hsum.out
            omega
     · obtain rfl : k = 4 := by omega
       obtain ⟨A', hA', hrow, hsum⟩ := qcb h Hd.out
       have hs4 := Hs.out
       rw [hsum, ← Hdec.out, if_neg (by omega), qb8] at hs4
       have m0 := M0.out
       rw [hrow] at m0
       have hc38 := Hc.out (by omega)
       obtain ⟨o', rfl⟩ := Int.eq_ofNat_of_zero_le c0
       have hnum : A' + o' * 115792089237316195423570985008687907853269984665640564039457584007913129639936 = A + 38 * ov := by omega
       have hmod2 : (A' + o' * 115792089237316195423570985008687907853269984665640564039457584007913129639936) % PP = r := by rw [mod38 A A' ov o' hnum, ← Hgk.out]; exact Hmod.out
       have hms : A' + o' * 115792089237316195423570985008687907853269984665640564039457584007913129639936 < gk := by rw [Hgk.out]; omega
       have M0 := Lib.hid m0; clear m0
       have Hmod2 := Lib.hid hmod2; clear hmod2
       have Hms := Lib.hid hms; clear hms
       have HA' := Lib.hid hA'; clear hA'
       clear hrow hsum hs4 hnum
       go_wp2_with fail
       go_roundg (A' + o' * 115792089237316195423570985008687907853269984665640564039457584007913129639936)
       case measure => exact Hms.out
       case rel => exact ⟨A', o', rfl, Hmod2.out, HA'.out, by omega, rfl, M0.out, M1.out, hB⟩
  · obtain rfl : ov = 0 := by omega
    have hfin : A % PP = r := by rw [← hmod, hgk, Nat.zero_mul, Nat.add_zero]
    obtain ⟨Z, hZ, mz⟩ := m1
    have HBB := Lib.hid (below_setRow hB (w.heap.size + 1) (e4 A) (by omega))
    have M0 := Lib.hid m0; clear m0
    have Mz := Lib.hid mz; clear mz
    have HZ := Lib.hid hZ; clear hZ
    have Hfin := Lib.hid hfin; clear hfin
    have HA := Lib.hid hA; clear hA
    clear hmod hgk hov
    go_wp2_with (first | (refine wpList_load_row rfl 36 _ rfl (w.heap.size) rfl 36 (e4 A) (0, 0) _ M0.out Try.underlying36 rfl (by rw [qd]; kernel_rfl) ?_) | (refine wpList_store_row rfl 36 _ _ rfl (w.heap.size + 1) _ rfl rfl 36 Z Mz.out (by rw [qd]; kernel_rfl) (HZ.out.trans (qd _).symm) (qp _ _ _) ?_))
    exact bodyPost_ret (v := .agg (e4 A)) (results_cell_row (t := 36) (by rfl) _ _ (w.heap.size + 1) _ _ _ rfl (Mz.out.setRow _) Try.underlying36 rfl (by rw [qd]; kernel_rfl)) rfl ⟨A, HA.out, Hfin.out, rfl, HBB.out⟩
end
end Go.Proofs.Ytjiagjonlcadiaa
section
namespace Go
variable {P : Program} {ops : Array Oper} {Q : Exit → Act → World → Prop} {S : World → Prop} {a : Act} {w : World}
theorem QT {o : Oper} (hw : Region.wanted o (yielded ops a.tmps) = true) (t : TypeId) (parts : Array (Nat × Operand)) (ho : o.op = .build t parts) (pl : List (Nat × Value)) (hv : parts.toList.map (fun p => (p.1, a.eval p.2)) = pl) (cells : Array Value) (hc : P.built t pl = some cells) : YieldsIf P ops S o (.agg cells) a := by
 refine Or.inl ⟨hw, fun w _ => ?_⟩
 have hc2 : P.built t (parts.map fun (i, x) => (i, a.eval x)).toList = some cells := by
  rw [Array.toList_map, ← hc, ← hv]
 unfold execOp
 simp only [ho, Sem.run_bind, run_build w t _ cells hc2, Result.andThen_ok]
 rfl
theorem Qt {rest : List Oper} {o : Oper} (hw : Region.wanted o (yielded ops a.tmps) = true) (t : TypeId) (parts : Array (Nat × Operand)) (ho : o.op = .build t parts) (pl : List (Nat × Value)) (hv : parts.toList.map (fun p => (p.1, a.eval p.2)) = pl) (cells : Array Value) (hc : P.built t pl = some cells)
 (d : Tmp) (hd : o.dst = some d) (h : wpList P ops Q rest { a with tmps := a.tmps.setIfInBounds d (.agg cells) } w) : wpList P ops Q (o :: rest) a w := by
 rcases QT (ops := ops) (S := fun _ => True) hw t parts ho pl hv cells hc with ⟨_, h1⟩ | ⟨h1, _⟩
 · refine wpList_step fun K hK => ?_
   rw [if_pos hw]
   unfold Oper.wp
   rw [h1 w trivial, Oper.upon_value]
   refine hK _ _ ?_
   rw [QN hd]; exact h
 · rw [hw] at h1; cases h1
theorem qJ {rest : List Oper} {o : Oper} (hw : Region.wanted o (yielded ops a.tmps) = true) (ty : TypeId) (ho : o.op = .alloc ty) (Z : Array Value)
 (hz : ∀ w : World, (Instr.alloc ty true (.tuple #[])).run P w = .ok (.pointer (some ⟨w.heap.size, 0, none⟩)) (w.alloc (.cells Z ty))) (d : Tmp) (hd : o.dst = some d)
 (h : ∀ w2, w2 = w.alloc (.cells Z ty) → wpList P ops Q rest { a with tmps := a.tmps.setIfInBounds d (.pointer (some ⟨w.heap.size, 0, none⟩)) } w2) : wpList P ops Q (o :: rest) a w := by
 refine wpList_step fun K hK => ?_
 rw [if_pos hw]
 unfold Oper.wp execOp
 simp only [ho, Sem.run_bind, Sem.run_pure, hz, Result.andThen_ok]
 refine hK _ _ ?_
 rw [QN hd]; exact h _ rfl
theorem ql {rest : List Oper} {o : Oper} (hw : Region.wanted o (yielded ops a.tmps) = true) (ty : TypeId) (x y : Operand) (ho : o.op = .store ty x y) (hd : o.dst = none)
 (g : Nat) (cells : Array Value) (hx : a.eval x = .pointer (some ⟨g, 0, none⟩)) (hy : a.eval y = .agg cells)
 (t : TypeId) (old : Array Value) (hg : w.heap[g]? = some (.cells old t (0, 0))) (hi : (P.info? ty).map (·.size) = some cells.size)
 (hold : old.size = cells.size) (h1 : cells.all (·.oneCell') = true)
 (h : ∀ w2, w2 = w.setRow g cells → wpList P ops Q rest a w2) : wpList P ops Q (o :: rest) a w := by
 refine wpList_step fun K hK => ?_
 rw [if_pos hw]
 refine wp_store_row ty x y ho g cells hx hy t old hg hi hold h1 ?_
 refine hK _ _ ?_
 rw [qar hd]; exact h _ rfl
theorem qW {rest : List Oper} {o : Oper} (hw : Region.wanted o (yielded ops a.tmps) = true) (ty : TypeId) (x : Operand) (ho : o.op = .load ty x) (b i : Nat) (hx : a.eval x = .pointer (some ⟨b, i, none⟩)) (cs : List Value) (c : Array Value) (hcc : c = cs.toArray)
 (hr : w.rangeAt b i cs) (d : TypeDesc) (hu : P.underlying ty = some d) (hd : d.isRow = true) (hi : (P.info? ty).map (·.size) = some cs.length)
 (e : Tmp) (he : o.dst = some e) (h : wpList P ops Q rest { a with tmps := a.tmps.setIfInBounds e (.agg c) } w) : wpList P ops Q (o :: rest) a w := by
 have hy := yieldsIf_load_mid (ops := ops) (S := fun w' => w' = w) hw ty x ho b i hx cs d (fun w' h' => by rw [h']; exact hr) hu hd hi
 rcases hy with ⟨_, h1⟩ | ⟨h1, _⟩
 · refine wpList_step fun K hK => ?_
   rw [if_pos hw]
   unfold Oper.wp
   rw [h1 w rfl, Oper.upon_value]
   refine hK _ _ ?_
   rw [QN he, ← hcc]; exact h
 · rw [hw] at h1; cases h1
theorem qS {o : Oper} (hw : Region.wanted o (yielded ops a.tmps) = true) (ty : TypeId) (x : Operand) (ho : o.op = .load ty x) (b i : Nat) (hx : a.eval x = .pointer (some ⟨b, i, none⟩)) (cs : List Value) (c : Array Value) (hcc : c = cs.toArray)
 (hS : ∀ w, S w → w.rangeAt b i cs) (d : TypeDesc) (hu : P.underlying ty = some d) (hd : d.isRow = true) (hi : (P.info? ty).map (·.size) = some cs.length) : YieldsIf P ops S o (.agg c) a := by
 rw [hcc]; exact yieldsIf_load_mid hw ty x ho b i hx cs d hS hu hd hi
end Go
namespace Go.Proofs.Ytjiagjonlcadiaa
open Go.RowKit Go.Lib
def e4l (n : Nat) : List Value := zu .u64 4 (dg 18446744073709551616 n)
theorem Zz (n : Nat) : (e4l n).length = 4 := Zf _ _ _
def pt (x y z : Nat) (b : Bool) : Array Value := (e4l x ++ e4l y ++ e4l z ++ [Value.bool b]).toArray
theorem qs (x y z : Nat) (b : Bool) : (pt x y z b).size = 13 := by simp [pt, Zz]
theorem QK (x y z : Nat) (b : Bool) : (pt x y z b).all (·.oneCell') = true := by
 simp [pt, e4l, zu, List.all_eq_true, Value.oneCell']
def Qa (n : Nat) : List Value := zu .i64 22 (dg 4096 n)
theorem qM (n : Nat) : (Qa n).length = 22 := Zf _ _ _
def rp (x y z t : Nat) : Array Value := (Qa x ++ Qa y ++ Qa z ++ Qa t).toArray
theorem qA (x y z t : Nat) : (rp x y z t).size = 88 := by simp [rp, qM]
theorem QF (x y z t : Nat) : (rp x y z t).all (·.oneCell') = true := by
 simp [rp, Qa, zu, List.all_eq_true, Value.oneCell']
theorem zf {w : World} {b : Nat} {t : TypeId} {l1 l2 l3 : List Value} (h : Has w b (l1 ++ l2 ++ l3).toArray t) : w.rangeAt b l1.length l2 := fun j v hv => by
 have hj : j < l2.length := (List.getElem?_eq_some_iff.1 hv).1
 rw [h.cellAt]
 simp only [List.getElem?_toArray]
 rw [List.append_assoc, List.getElem?_append_right (by omega), List.getElem?_append_left (by omega), show l1.length + j - l1.length = j by omega, hv]
theorem pt_x {w : World} {b : Nat} {t : TypeId} {x y z : Nat} {o : Bool} (h : Has w b (pt x y z o) t) : w.rangeAt b 0 (e4l x) := by
 have h2 : Has w b ([] ++ e4l x ++ (e4l y ++ e4l z ++ [Value.bool o])).toArray t := by simpa [pt] using h
 exact zf h2
theorem pt_y {w : World} {b : Nat} {t : TypeId} {x y z : Nat} {o : Bool} (h : Has w b (pt x y z o) t) : w.rangeAt b 4 (e4l y) := by
 have h2 : Has w b (e4l x ++ e4l y ++ (e4l z ++ [Value.bool o])).toArray t := by simpa [pt] using h
 have := zf h2
 rwa [Zz] at this
theorem pt_z {w : World} {b : Nat} {t : TypeId} {x y z : Nat} {o : Bool} (h : Has w b (pt x y z o) t) : w.rangeAt b 8 (e4l z) := by
 have h2 : Has w b ((e4l x ++ e4l y) ++ e4l z ++ [Value.bool o]).toArray t := by simpa [pt] using h
 have := zf h2
 rwa [List.length_append, Zz, Zz] at this
theorem pt_w {w : World} {b : Nat} {t : TypeId} {x y z : Nat} {o : Bool} (h : Has w b (pt x y z o) t) : w.cell? ⟨b, 12, none⟩ = some (.bool o) := by
 rw [h.cellAt]; simp [pt, Zz]
theorem rp_x {w : World} {b : Nat} {t : TypeId} {x y z s : Nat} (h : Has w b (rp x y z s) t) : w.rangeAt b 0 (Qa x) := by
 have h2 : Has w b ([] ++ Qa x ++ (Qa y ++ Qa z ++ Qa s)).toArray t := by simpa [rp] using h
 exact zf h2
theorem rp_y {w : World} {b : Nat} {t : TypeId} {x y z s : Nat} (h : Has w b (rp x y z s) t) : w.rangeAt b 22 (Qa y) := by
 have h2 : Has w b (Qa x ++ Qa y ++ (Qa z ++ Qa s)).toArray t := by simpa [rp] using h
 have := zf h2
 rwa [qM] at this
theorem rp_z {w : World} {b : Nat} {t : TypeId} {x y z s : Nat} (h : Has w b (rp x y z s) t) : w.rangeAt b 44 (Qa z) := by
 have h2 : Has w b ((Qa x ++ Qa y) ++ Qa z ++ Qa s).toArray t := by simpa [rp] using h
 have := zf h2
 rwa [List.length_append, qM, qM] at this
theorem rp_t {w : World} {b : Nat} {t : TypeId} {x y z s : Nat} (h : Has w b (rp x y z s) t) : w.rangeAt b 66 (Qa s) := by
 have h2 : Has w b ((Qa x ++ Qa y ++ Qa z) ++ Qa s ++ []).toArray t := by simpa [rp] using h
 have := zf h2
 rwa [List.length_append, List.length_append, qM, qM, qM] at this
theorem bd36z : Try.prog.built 36 [] = some (e4 0) := by kernel_rfl
theorem bd53z : Try.prog.built 53 [] = some (pt 0 0 0 false) := by kernel_rfl
theorem bd53 (x y z : Nat) (b : Bool) : Try.prog.built 53 [(0, .agg (e4 x)), (1, .agg (e4 y)), (2, .agg (e4 z)), (3, .bool b)] = some (pt x y z b) := by kernel_rfl
theorem bd57 (x y z t : Nat) : Try.prog.built 57 [(0, .agg (r22 x)), (1, .agg (r22 y)), (2, .agg (r22 z)), (3, .agg (r22 t))] = some (rp x y z t) := by kernel_rfl
theorem bd57o (y z : Nat) : Try.prog.built 57 [(1, .agg (r22 y)), (2, .agg (r22 z))] = some (rp 0 y z 0) := by kernel_rfl
def z53 : Array Value := (#[.int .u64 0, .int .u64 0, .int .u64 0, .int .u64 0, .int .u64 0, .int .u64 0, .int .u64 0, .int .u64 0, .int .u64 0, .int .u64 0, .int .u64 0, .int .u64 0, .bool false] : Array Value)
theorem al53 (w : World) : (Instr.alloc 53 true (.tuple #[])).run Try.prog w = .ok (.pointer (some ⟨w.heap.size, 0, none⟩)) (w.alloc (.cells z53 53)) := by
 unfold z53
 go_simp
theorem al57 (w : World) : (Instr.alloc 57 true (.tuple #[])).run Try.prog w = .ok (.pointer (some ⟨w.heap.size, 0, none⟩)) (w.alloc (.cells Try.zeroCells57 57)) := by
 go_simp
theorem qa1 {P : Program} {fn : Func} {p q r : Tmp} {ty : TypeId} (h : fn.results = #[.cell p ty, .cell q ty, .cell r ty]) (tmps : Array Value) (w : World) (g1 g2 g3 : Nat) (t1 t2 t3 : TypeId) (c1 c2 c3 : Array Value) (d : TypeDesc)
 (hp : tmps.getD p undef = .pointer (some ⟨g1, 0, none⟩)) (hq : tmps.getD q undef = .pointer (some ⟨g2, 0, none⟩)) (hr : tmps.getD r undef = .pointer (some ⟨g3, 0, none⟩))
 (h1 : w.heap[g1]? = some (.cells c1 t1 (0, 0))) (h2 : w.heap[g2]? = some (.cells c2 t2 (0, 0))) (h3 : w.heap[g3]? = some (.cells c3 t3 (0, 0)))
 (hu : P.underlying ty = some d) (hd : (match d with | .struct _ | .array _ _ => true | _ => false) = true) (i1 : (P.info? ty).map (·.size) = some c1.size) (i2 : (P.info? ty).map (·.size) = some c2.size) (i3 : (P.info? ty).map (·.size) = some c3.size) :
 (results fn tmps).run P w = .ok (.tuple #[.agg c1, .agg c2, .agg c3]) w := by
 have hp' : tmps[p]?.getD undef = .pointer (some ⟨g1, 0, none⟩) := by simpa using hp
 have hq' : tmps[q]?.getD undef = .pointer (some ⟨g2, 0, none⟩) := by simpa using hq
 have hr' : tmps[r]?.getD undef = .pointer (some ⟨g3, 0, none⟩) := by simpa using hr
 simp [results, h, hp', hq', hr', asAddr, run_loadVar_row w g1 t1 ty c1 _ d h1 hu hd i1, run_loadVar_row w g2 t2 ty c2 _ d h2 hu hd i2, run_loadVar_row w g3 t3 ty c3 _ d h3 hu hd i3]
end Go.Proofs.Ytjiagjonlcadiaa
end
section
namespace Go
open Go.RowKit
variable {P : Program} {ops : Array Oper} {Q : Exit → Act → World → Prop} {l n : Nat} {a : Act} {w : World}
def qaM (ops : Array Oper) : Bool := ops.all fun o => match o.op with | .defer _ => false | _ => true
theorem qcZ (h : qaM ops = true) (i : Nat) (o : Oper) (hi : ops[i]? = some o) : ∀ c, o.op ≠ .defer c := fun c hc => by
 have h1 := Array.all_eq_true_iff_forall_mem.1 h o (Array.mem_of_getElem? hi)
 rw [hc] at h1
 cases h1
theorem qa3 {o : Oper} (hd : ∀ c, o.op ≠ .defer c) {K : Act → World → Prop} (h : o.wp P a w K Q) : o.wpIn (Fence.wide.inRound l) n P a w K Q := by
 refine ⟨fun _ _ => trivial, ?_⟩
 show o.uponIn _ n P a K Q ((o.semAt (some l) a.eval).run P w)
 rw [Oper.semAt_some l _ o hd]
 unfold Oper.wp at h
 generalize (execOp a.eval o).run P w = r at *
 cases r with
 | ok x w' =>
  cases x with
  | value v => exact h
  | skip => exact h
  | defer d => exact h
  | enter f args => exact ⟨fun e => (by cases e), CallsIn.inRound l (callsIn_wide.2 h)⟩
  | row row args => exact ⟨fun e => (by cases e), fun c cs _ => let ⟨v, w2, hr, hs⟩ := h c cs; ⟨v, w2, hr, stepsIn_wide.2 hs⟩⟩
  | _ => exact h.elim
 | halt x w' => cases x <;> exact h
theorem op_in_round (hd : qaM ops = true) (hQ : ¬ LetsOut Q) {i : Nat} {K : Act → World → Prop} (h : wpOp P ops Q i K a w) : wpOpIn (Fence.wide.inRound l) n P ops Q i K a w := by
 unfold wpOp at h
 unfold wpOpIn
 cases hi : ops[i]? with
 | none => simp only [hi] at h ⊢; exact h
 | some o =>
  simp only [hi] at h ⊢
  split
  · rename_i hw
    rw [if_pos hw] at h
    rcases h with h | ⟨_, h⟩
    · exact qa3 (qcZ hd i o hi) h
    · exact (hQ h).elim
  · rename_i hw
    rw [if_neg hw] at h
    exact ⟨fun _ _ => trivial, h⟩
theorem any_in_round (hd : qaM ops = true) (hQ : ¬ LetsOut Q) {md : Region.Mode} : ∀ (f : Nat) (listed : Array Bool) (a : Act) (w : World), wpAny P md ops Q f listed a w → wpAnyIn (Fence.wide.inRound l) n P md ops Q f listed a w := by
 intro f
 induction f with
 | zero => intro _ _ _ h; exact h
 | succ f ih => intro listed a w h; exact ⟨h.1, fun j hj => op_in_round hd hQ (wpOp_mono (fun a' w' h' => ih _ a' w' h') (h.2 j hj))⟩
theorem qdp (hd : qaM ops = true) (hQ : ¬ LetsOut Q) : ∀ (rest : List Oper) (_ : ∀ o ∈ rest, o ∈ ops) (a : Act) (w : World), wpList P ops Q rest a w → wpListIn (Fence.wide.inRound l) n P ops Q rest a w := by
 intro rest
 induction rest with
 | nil => intro _ _ _ h; exact h
 | cons o rest ih =>
  intro hr a w h
  unfold wpList at h
  unfold wpListIn
  split
  · rename_i hw
    rw [if_pos hw] at h
    rcases h with h | ⟨_, h⟩
    · obtain ⟨i, hi⟩ := Array.getElem?_of_mem (hr o (by simp))
      exact qa3 (qcZ hd i o hi) (Oper.wp_mono (fun a' w' h' => ih (fun o' ho' => hr o' (by simp [ho'])) a' w' h') h)
    · exact (hQ h).elim
  · rename_i hw
    rw [if_neg hw] at h
    exact ⟨fun _ _ => trivial, ih (fun o' ho' => hr o' (by simp [ho'])) _ _ h⟩
theorem Qg {l0 : List Oper} (hd : qaM l0.toArray = true) (h : wpList P l0.toArray Q l0 a w) (hQ : ¬ LetsOut Q := by exact fun ⟨_, _, h⟩ => h) : wpListIn (Fence.wide.inRound l) n P l0.toArray Q l0 a w :=
 qdp hd hQ l0 (fun o ho => by simpa using ho) a w h
theorem qak {F : Fence} {id : Nat} {b : Bool} (h : (Code.region id ops b).wpIn F n P (NoPanic Q) a w) : (Code.region id ops b).wpIn F n P Q a w := wpIn_mono h NoPanic.imp
theorem wpr_goS {id : Nat} (S : World → Prop) (f N : Nat) (l0 : Array Bool) (hm : (P.follows .mixedOrders && qaM ops) = true) (hN : ops.size = N) (hl : Array.replicate N false = l0)
 (h : Qq P .any ops Q f S N l0 a w.drew) (hQ : ¬ LetsOut Q := by exact fun ⟨_, _, h⟩ => h) : (Code.region id ops true).wpIn (Fence.wide.inRound l) n P Q a w := by
 obtain ⟨h1, h2⟩ := (Bool.and_eq_true _ _).mp hm
 refine wpIn_region_any h1 (any_in_round h2 hQ _ _ _ _ (qbf (f := f) (S := S) _ _ _ _ ?_))
 subst hl; subst hN; exact h
structure But (B : Nat) (A W : World) : Prop where
 os : W.os = A.os
 tape : W.tape = A.tape
 output : W.output = A.output
 size : A.heap.size ≤ W.heap.size
 block : ∀ k, k < A.heap.size → k ≠ B → W.heap[k]? = A.heap[k]?
theorem But.refl (B : Nat) (W : World) : But B W W := ⟨rfl, rfl, rfl, Nat.le_refl _, fun _ _ _ => rfl⟩
theorem But.call {B : Nat} {A W W' : World} (h : But B A W) (hb : Below W.heap.size W W') : But B A W' :=
 ⟨hb.os.trans h.os, hb.tape.trans h.tape, hb.output.trans h.output, Nat.le_trans h.size hb.size, fun k hk hn => (hb.block k (Nat.lt_of_lt_of_le hk h.size)).trans (h.block k hk hn)⟩
theorem But.drew {B : Nat} {A W : World} (h : But B A W) : But B A W.drew := ⟨h.os, h.tape, h.output, h.size, h.block⟩
theorem But.setRow_other {B : Nat} {A W : World} (h : But B A W) (g : Nat) (c : Array Value) (hg : g = B) : But B A (W.setRow g c) := by
 have h2 := Go.Proofs.Ytjiagjonlcadiaa.below_setRow (Below.refl 0 W) g c (Nat.zero_le _)
 exact ⟨h2.os.trans h.os, h2.tape.trans h.tape, h2.output.trans h.output, Nat.le_trans h.size h2.size, fun k hk hn => (Go.setRow_other W g k c (by omega)).trans (h.block k hk hn)⟩
theorem But.others {B : Nat} {A W : World} (h : But B A W) {c : Array Value} {t : TypeId} (hB : Go.Proofs.Ytjiagjonlcadiaa.Has A B c t) : KeepsOthers A W :=
 ⟨h.size, fun k o hk ho => (h.block k (Array.getElem?_eq_some_iff.1 hk).1 (fun e => by
  subst e
  have e2 : some o = some (.cells c t (0, 0)) := hk.symm.trans hB
  obtain rfl := Option.some.inj e2
  cases ho)).trans hk⟩
def qbK (b1 b2 : Nat) (A W : World) : Prop := W.heap[b1]? = A.heap[b1]? ∧ W.heap[b2]? = A.heap[b2]?
theorem keep2_t {b1 b2 : Nat} {A B C : World} (h : qbK b1 b2 A B) (k : qbK b1 b2 B C) : qbK b1 b2 A C := ⟨k.1.trans h.1, k.2.trans h.2⟩
theorem keep2_b {b1 b2 : Nat} {w : World} (h1 : b1 < w.heap.size) (h2 : b2 < w.heap.size) (W : World) (l : Nat) (o o' : Obj) (hl : w.heap.size ≤ l) (_ : W.heap[l]? = some o) (_ : o.isCells = false) (_ : o.isWalk = false) : qbK b1 b2 W (W.putObj l o') := by
 have h (k : Nat) (hk : k ≠ l) : (W.putObj l o').heap[k]? = W.heap[k]? := by
  show (W.heap.setIfInBounds l o')[k]? = _
  rw [Array.getElem?_setIfInBounds_ne (fun e => hk e.symm)]
 exact ⟨h b1 (by omega), h b2 (by omega)⟩
theorem But.keep2 {B b1 b2 : Nat} {A W : World} (h : But B A W) (n1 : b1 ≠ B) (n2 : b2 ≠ B) (l1 : b1 < A.heap.size) (l2 : b2 < A.heap.size) : qbK b1 b2 A W := ⟨h.block b1 l1 n1, h.block b2 l2 n2⟩
theorem qcI {o : Oper} {c : Call} {x : Operand} {g : FuncId} {bs : Array Value} {vl : List Value} (ho : o.op = .call c) (hc : c.callee = .value x) (hx : a.eval x = .func (.func g) bs #[]) (he : Enters P g)
 (hv : c.args.toList.map a.eval = vl) (w : World) : (execOp a.eval o).run P w = .ok (.enter g (bs ++ vl.toArray)) w := by
 obtain ⟨fn, h1, h2, h3⟩ := he
 have h4 : fn.name ≠ "runtime.NumGoroutine" := by simpa using h2
 have h5 : c.args.map a.eval = vl.toArray := by apply Array.ext'; rw [← hv]; simp
 unfold execOp
 simp only [ho, resolve, hc, hx, h5]
 cases hb : fn.body with
 | none => rw [hb] at h3; cases h3
 | some code => simp [Deferred.ofValue, invoke, callFunc, h1, h4, hb]
theorem qaY {o : Oper} {c : Call} {x : Operand} {g : FuncId} {bs : Array Value} {vl : List Value} {K : Act → World → Prop} {R : Ending → World → Prop} (ho : o.op = .call c) (hc : c.callee = .value x) (hx : a.eval x = .func (.func g) bs #[]) (he : Enters P g)
 (hv : c.args.toList.map a.eval = vl) (h : Calls P g (bs ++ vl.toArray) w R) (hR : ∀ e w', R e w' → ∃ v, e = .returned v ∧ K (a.put o.dst v) w') : o.wp P a w K Q := by
 unfold Oper.wp
 rw [qcI ho hc hx he hv w, Oper.upon_enter]
 refine h.mono fun e w' hr => ?_
 obtain ⟨v, rfl, hK⟩ := hR e w' hr
 exact hK
theorem qc6 {md : Region.Mode} {f N : Nat} {S : World → Prop} {listed : Array Bool} (i : Nat) (d : Tmp) (l' : Array Bool) {oi : Oper} {c : Call} {x : Operand} {g : FuncId} {bs : Array Value} {vl : List Value} {R : Ending → World → Prop} (hi : ops[i]? = some oi) (hd : oi.dst = some d) (hl : listed.setIfInBounds i true = l') (hw : Region.wanted oi (yielded ops a.tmps) = true) (ho : oi.op = .call c) (hc : c.callee = .value x)
 (hx : a.eval x = .func (.func g) bs #[]) (he : Enters P g) (hv : c.args.toList.map a.eval = vl) (h : Calls P g (bs ++ vl.toArray) w R)
 (hR : ∀ e w', R e w' → ∃ v, e = .returned v ∧ (i ≠ f → S w') ∧ Qq P md ops Q f S N l' { a with tmps := a.tmps.setIfInBounds d v } w') : Zu P md ops Q f S N listed a w i :=
 ZO hi hw (qaY ho hc hx he hv h fun e w' hr => let ⟨v, h1, h2, h3⟩ := hR e w' hr; ⟨v, h1, h2, by rw [QN hd, hl]; exact h3⟩)
theorem qbe {rest : List Oper} {o : Oper} {c : Call} {x : Operand} {g : FuncId} {bs : Array Value} {vl : List Value} {R : Ending → World → Prop} (hw : Region.wanted o (yielded ops a.tmps) = true) (ho : o.op = .call c) (hc : c.callee = .value x)
 (hx : a.eval x = .func (.func g) bs #[]) (he : Enters P g) (hv : c.args.toList.map a.eval = vl) (h : Calls P g (bs ++ vl.toArray) w R)
 (d : Tmp) (hd : o.dst = some d) (hR : ∀ e w', R e w' → ∃ v, e = .returned v ∧ wpList P ops Q rest { a with tmps := a.tmps.setIfInBounds d v } w') : wpList P ops Q (o :: rest) a w :=
 wpList_step fun K hK => by
  rw [if_pos hw]
  exact Oper.wp_mono hK (qaY ho hc hx he hv h fun e w' hr => let ⟨v, h1, h2⟩ := hR e w' hr; ⟨v, h1, by rw [QN hd]; exact h2⟩)
theorem go_storem {md : Region.Mode} {f N : Nat} {S : World → Prop} {listed : Array Bool} (i : Nat) (l' : Array Bool) {oi : Oper} (hi : ops[i]? = some oi) (hd : oi.dst = none) (hl : listed.setIfInBounds i true = l') (hw : Region.wanted oi (yielded ops a.tmps) = true) (ty : TypeId) (x y : Operand) (ho : oi.op = .store ty x y)
 (b o : Nat) (cells : Array Value) (hx : a.eval x = .pointer (some ⟨b, o, none⟩)) (hy : a.eval y = .agg cells) (ht : w.there b o cells.size) (hs : (P.info? ty).map (·.size) = some cells.size) (h1 : cells.all (·.oneCell') = true)
 (h : ∀ w2, w2 = w.setCells b o cells.toList → (i ≠ f → S w2) ∧ Qq P md ops Q f S N l' a w2) : Zu P md ops Q f S N listed a w i :=
 ZO hi hw (wp_store_mid ty x y ho b o cells hx hy ht hs h1 (by have := h _ rfl; rw [qar hd, hl]; exact this))
theorem range_wide {α : Type} {g : Operand} {ps : Array Tmp} {assign body : Code} {n : Nat} (h1 : 1 ≤ n) {gf : Nat} {lb : Array Value} (hg : a.eval g = .func (.func gf) #[] lb) (eg : ∀ args w, (callFunc gf args).run P w = .ok (.enter gf args) w)
 {encs : α → Array Value} {Kp : World → World → Prop} {S Sp : List α → Prop} {N : Nat} {w0 : World} (hseq : SeqStopsK Fence.wide (n - 1) P gf lb encs Kp S Sp N w0)
 (hKt : ∀ {A B C : World}, Kp A B → Kp B C → Kp A C) (hKb : ∀ (W : World) (l : Nat) (o o' : Obj), w.heap.size ≤ l → W.heap[l]? = some o → o.isCells = false → o.isWalk = false → Kp W (W.putObj l o')) (hb0 : Below w0.heap.size w0 w) (hps : ∀ x, (encs x).size = ps.size)
 (I : List α → World → Prop) (hI : OwnFrom w.heap.size I) (h0 : I [] w) (asg : α → Array Value → Array Value)
 (hassign : ∀ (l : Nat) (x : α) (W : World) (K : Act → World → Prop), K { tmps := asg x ((ps.zip (encs x)).foldl (fun t (p, v) => t.setIfInBounds p v) a.tmps), defers := [] } W →
  assign.wpIn (Fence.wide.inRound l) (n - 1 - 1) P (Exit.then K (fun _ _ _ => False)) { tmps := (ps.zip (encs x)).foldl (fun t (p, v) => t.setIfInBounds p v) a.tmps, defers := [] } W)
 (hbody : ∀ (l : Nat) (pre : List α) (x : α) (W : World), I pre W → pre.length < N → body.wpIn (Fence.wide.inRound l) (n - 1 - 1) P (ownPostK Kp I (fun _ _ _ => False) (pre ++ [x]) W) { tmps := asg x ((ps.zip (encs x)).foldl (fun t (p, v) => t.setIfInBounds p v) a.tmps), defers := [] } W)
 (hdone : ∀ (D : Nat) (xs : List α) (W : World), w.heap.size ≤ D → S xs → I xs W → W.heap[D]? = some (.deferred (some [])) → Q .normal { a with defers := { target := .collected D, args := #[] } :: a.defers } W) :
 (Code.rangeFunc g ps assign body).wp P Q a w := by
 refine (wpIn_wide (n := n)).1 (wpIn_rangeFunc_ownF rfl h1 hg trivial eg hseq hKt hKb hb0 hps I (fun _ _ _ => False) hI (fun c s W W' row hs => hs.elim) h0 (fun x => { tmps := asg x ((ps.zip (encs x)).foldl (fun t (p, v) => t.setIfInBounds p v) a.tmps), defers := [] }) hassign hbody hdone (fun D c pre W _ _ h => h.elim))
end Go
namespace Go.Proofs.Ytjiagjonlcadiaa
open Go.RowKit
theorem But.grown {B : Nat} {A W W' : World} {r : Option Nat} (h : But B A W) (hg : W.grownBy W' r) (hr : ∀ k, r = some k → A.heap.size ≤ k) : But B A W' :=
 ⟨hg.os.trans h.os, hg.tape.trans h.tape, hg.output.trans h.output, Nat.le_trans h.size hg.size, fun k hk hn => (hg.block k (Nat.lt_of_lt_of_le hk h.size) (fun e => by have := hr k e.symm; omega)).trans (h.block k hk hn)⟩
theorem But.trans {B : Nat} {A W W' : World} (h : But B A W) (h2 : But B W W') : But B A W' :=
 ⟨h2.os.trans h.os, h2.tape.trans h.tape, h2.output.trans h.output, Nat.le_trans h.size h2.size, fun k hk hn => (h2.block k (Nat.lt_of_lt_of_le hk h.size) hn).trans (h.block k hk hn)⟩
def OwnI {β : Type} (A : World) (B : Nat) (t : TypeId) (C : β → Array Value → Prop) (s : β) (W : World) : Prop := ∃ c, C s c ∧ Has W B c t ∧ But B A W
theorem ownI_from {β : Type} {A : World} {B : Nat} {t : TypeId} {C : β → Array Value → Prop} (hB : B < A.heap.size) : OwnFrom A.heap.size (OwnI A B t C) :=
 fun _ W W' _ ⟨c, hc, hh, hb⟩ hg hr => ⟨c, hc, (hg.block B (Nat.lt_of_lt_of_le hB hb.size) (fun e => by have := (hr B e.symm).1; omega)).trans hh, But.grown hb hg (fun k e => (hr k e).1)⟩
theorem Has.but {A W : World} {B b : Nat} {c : Array Value} {t : TypeId} (h : Has A b c t) (hb : But B A W) (hn : b ≠ B) : Has W b c t := (hb.block b h.lt hn).trans h
theorem HasN.but {A W : World} {B b n : Nat} {t : TypeId} (h : HasN A b n t) (hb : But B A W) (hn : b ≠ B) : HasN W b n t := let ⟨c, hc, h⟩ := h; ⟨c, hc, h.but hb hn⟩
theorem qb5 {A W w : World} {B n0 : Nat} (h : Below n0 w A) (hb : But B A W) (h0 : n0 ≤ B) (h1 : n0 ≤ A.heap.size) : Below n0 w W :=
 h.trans ⟨hb.os, hb.tape, hb.output, hb.size, fun k hk => hb.block k (by omega) (by omega)⟩
end Go.Proofs.Ytjiagjonlcadiaa
namespace Go.Proofs.Ytjiagjonlcadiaa
open Go.RowKit Go.Shelf
attribute [local go_sem] Oper.semAt_some
def qbi {α : Type} (f : Nat → α) (k : Nat) : List α := (List.range k).map f
theorem qdy {α : Type} (f : Nat → α) (k : Nat) : qbi f (k + 1) = qbi f k ++ [f k] := by simp [qbi, List.range_succ]
theorem upto_length {α : Type} (f : Nat → α) (k : Nat) : (qbi f k).length = k := by simp [qbi]
def bkf (len : Nat) (k : Nat) : Nat := len - 1 - k
theorem bkw1_in (F : Fence) (n : Nat) (h7 : F.fn 111) (hro : F.round = none) (hn : 1 ≤ n) (l Bs b len cap : Nat) (g : Nat → Int) (hreach : len ≤ 1000000) (J Jx : List Nat → World → Prop)
 (hY : ∀ (pre : List Nat) (x : Nat) (W : World), J pre W → pre.length < len → YieldAt F (n - 1) Try.prog l #[.int .i64 (x : Int), .int .u8 (g x)] W fun e W' =>
  (e = .returned (.bool true) ∧ J (pre ++ [x]) W' ∧ qbK Bs b W W') ∨ (e = .returned (.bool false) ∧ Jx (pre ++ [x]) W'))
 (W : World) (hBs : W.cell? ⟨Bs, 0, none⟩ = some (.slice (some ⟨b, 0, none⟩) len cap)) (hc : ∀ j, j < len → W.cell? ⟨b, j, none⟩ = some (.int .u8 (g j))) (h0 : J [] W) :
 CallsIn F n Try.prog 111 #[.func (.yield l) #[] #[], .pointer (some ⟨Bs, 0, none⟩)] W fun e W' => (∃ v, e = .returned v) ∧
  ((∃ ys, ys = qbi (bkf len) len ∧ J ys W') ∨ (∃ pre, (∃ k, k ≤ len ∧ pre = qbi (bkf len) k) ∧ Jx pre W')) := by
 refine callsIn_of_wp Try.func111 rfl h7 ?_ hro
 simp only [Try.ntmps111, List.size_toArray, List.length_cons, List.length_nil, Nat.reduceAdd, Nat.reduceSub, Array.replicate_succ, Array.replicate_zero, List.push_toArray, List.append_toArray, List.nil_append, List.cons_append]
 gi_wp2
 gi_loopw [3] (fun i wr => ∃ m : Nat, m ≤ len ∧ i = .int .i64 ((m : Int) - 1) ∧ J (qbi (bkf len) (len - m)) wr ∧ qbK Bs b W wr)
  (fun i _ => (intOf i + 1).toNat)
 case atStart => exact ⟨len, Nat.le_refl _, rfl, by rw [Nat.sub_self]; exact h0, rfl, rfl⟩
 case round =>
  obtain ⟨m, hm, rfl, hJs, hnx⟩ := hrel
  have hBs' := (World.cell?_of_block (w := W) (w' := wr) (a := ⟨Bs, 0, none⟩) hnx.1).trans hBs
  rcases Nat.eq_zero_or_pos m with h0m | h0m
  · subst h0m
    gi_wp2
    go_end0
    exact ⟨⟨_, rfl⟩, .inl ⟨_, rfl, hJs⟩⟩
  · obtain ⟨j, rfl⟩ : ∃ j, m = j + 1 := ⟨m - 1, by omega⟩
    rw [show ((j + 1 : Nat) : Int) - 1 = (j : Int) by omega]
    have hj : j < len := by omega
    have hcx : wr.cell? ⟨b, j, none⟩ = some (.int .u8 (g j)) := (World.cell?_of_block (w := W) (w' := wr) (a := ⟨b, j, none⟩) hnx.2).trans (hc j hj)
    obtain ⟨fn, tmps, assign, body, hy, hR⟩ := hY _ j wr hJs (by rw [upto_length]; omega)
    have hlast : qbi (bkf len) (len - (j + 1)) ++ [j] = qbi (bkf len) (len - j) := by
     rw [show len - j = len - (j + 1) + 1 by omega, qdy]
     unfold bkf
     rw [show len - 1 - (len - (j + 1)) = j by omega]
    rw [hlast] at hR
    gi_wp2
    refine hR.mono ?_
    rintro e W3 (⟨rfl, hJ3, hk3⟩ | ⟨rfl, hJx3⟩)
    · gi_wp2
      go_roundw
      case rel => exact ⟨j, by omega, rfl, hJ3, keep2_t hnx hk3⟩
      case measure => simp [intOf]
    · gi_wp2
      refine bodyPost_ret (results_none rfl _ _ _) rfl ?_
      exact ⟨⟨_, rfl⟩, .inr ⟨_, ⟨len - j, by omega, rfl⟩, hJx3⟩⟩
theorem bkw_any (a : Option Addr) (len cap : Nat) (w : World) :
 Calls Try.prog 94 #[.slice a len cap] w fun e w' => e = .returned (.func (.func 111) #[] #[.pointer (some ⟨w.heap.size, 0, none⟩)]) ∧ w' = w.alloc (.cells #[.slice a len cap] 22) := by
 refine (callsIn_wide (n := 0)).1 (callsIn_of_wp Try.func94 rfl trivial ?_ rfl)
 simp only [Try.ntmps94, List.size_toArray, List.length_cons, List.length_nil, Nat.reduceAdd, Nat.reduceSub, Array.replicate_succ, Array.replicate_zero, List.push_toArray, List.append_toArray, List.nil_append, List.cons_append]
 gi_wp2
 go_ret
 exact ⟨rfl, rfl⟩
theorem bkw_stops (n : Nat) (hn : 1 ≤ n) (Bs b len cap : Nat) (g : Nat → Int) (hreach : len ≤ 1000000) (w : World) (hbs : Bs < w.heap.size) (hb : b < w.heap.size)
 (hBs : w.cell? ⟨Bs, 0, none⟩ = some (.slice (some ⟨b, 0, none⟩) len cap)) (hc : ∀ j, j < len → w.cell? ⟨b, j, none⟩ = some (.int .u8 (g j))) :
 SeqStopsK Fence.wide n Try.prog 111 #[.pointer (some ⟨Bs, 0, none⟩)] (fun x : Nat => #[Value.int .i64 (x : Int), Value.int .u8 (g x)]) (qbK Bs b) (fun ys => ys = qbi (bkf len) len) (fun pre => ∃ k, k ≤ len ∧ pre = qbi (bkf len) k) len w := fun l J Jx W hW _ _ hY h0 =>
 bkw1_in Fence.wide n trivial rfl hn l Bs b len cap g hreach J Jx hY W ((hW.cell (p := ⟨Bs, 0, none⟩) hbs).trans hBs) (fun j hj => (hW.cell (p := ⟨b, j, none⟩) hb).trans (hc j hj)) h0
end Go.Proofs.Ytjiagjonlcadiaa
end
section
namespace Go
open Go.RowKit
variable {P : Program} {ops : Array Oper} {Q : Exit → Act → World → Prop} {S : World → Prop} {a : Act} {w : World}
theorem qcG (w : World) (b : Nat) (ty : TypeId) (v : Value) (d : TypeDesc) (hc : w.cell? ⟨b, 0, none⟩ = some v) (hu : P.underlying ty = some d) (hd : d.isRow = false) : (Instr.loadAt ty (.pointer (some ⟨b, 0, none⟩))).run P w = .ok v w := by
 have hag : (isAgg ty).run P w = .ok false w := by
  cases d <;> first | (simp [isAgg, run_underlying hu]; done) | (simp [TypeDesc.isRow] at hd)
 simp [Instr.loadAt, Instr.sureAddr, loadVar, hag, hc]
theorem Qf {o : Oper} (hw : Region.wanted o (yielded ops a.tmps) = true) (ty : TypeId) (x : Operand) (ho : o.op = .load ty x) (b : Nat) (hx : a.eval x = .pointer (some ⟨b, 0, none⟩)) (v : Value) (d : TypeDesc)
 (hS : ∀ w, S w → w.cell? ⟨b, 0, none⟩ = some v) (hu : P.underlying ty = some d) (hd : d.isRow = false) : YieldsIf P ops S o v a := by
 refine Or.inl ⟨hw, fun w hSw => ?_⟩
 unfold execOp
 simp only [ho, hx, Sem.run_bind, qcG w b ty v d (hS w hSw) hu hd, Result.andThen_ok]
 rfl
theorem QI {rest : List Oper} {o : Oper} (hw : Region.wanted o (yielded ops a.tmps) = true) (ty : TypeId) (x : Operand) (ho : o.op = .load ty x) (b : Nat) (hx : a.eval x = .pointer (some ⟨b, 0, none⟩)) (v : Value) (d : TypeDesc)
 (hS : w.cell? ⟨b, 0, none⟩ = some v) (hu : P.underlying ty = some d) (hd : d.isRow = false) (e : Tmp) (he : o.dst = some e) (h : wpList P ops Q rest { a with tmps := a.tmps.setIfInBounds e v } w) : wpList P ops Q (o :: rest) a w := by
 rcases Qf (ops := ops) (S := fun w' => w' = w) hw ty x ho b hx v d (fun w' h' => by rw [h']; exact hS) hu hd with ⟨_, h1⟩ | ⟨h1, _⟩
 · refine wpList_step fun K hK => ?_
   rw [if_pos hw]
   unfold Oper.wp
   rw [h1 w rfl, Oper.upon_value]
   refine hK _ _ ?_
   rw [QN he]; exact h
 · rw [hw] at h1; cases h1
theorem qcw {o : Oper} (hw : Region.wanted o (yielded ops a.tmps) = true) (t : TypeId) (x y : Operand) (ho : o.op = .indexAddr t x y) (b len cap : Nat) (hx : a.eval x = .slice (some ⟨b, 0, none⟩) len cap) (kd : IntKind) (i : Int) (hy : a.eval y = .int kd i) (j : Nat) (hj : i = (j : Int)) (hlt : j < len)
 (e : TypeId) (hu : P.underlying t = some (.slice e)) (inf : TypeInfo) (hi : P.info? e = some inf) (n : Nat) (hn : inf.size = n) (off : Nat) (hoff : off = j * n) : YieldsIf P ops S o (.pointer (some ⟨b, off, none⟩)) a := by
 refine Or.inl ⟨hw, fun w _ => ?_⟩
 subst hj; subst hn; subst hoff
 have hlt' : (j : Int) < (len : Int) := by omega
 unfold execOp
 simp [ho, hx, hy, Instr.indexAt, asIntOf, run_underlying hu, sizeOf, typeInfo, hi, hlt, Addr.add_mid]
theorem zJ {rest : List Oper} {o : Oper} (hw : Region.wanted o (yielded ops a.tmps) = true) (t : TypeId) (x y : Operand) (ho : o.op = .makeSlice t x y) (v1 v2 : Value) (hx : a.eval x = v1) (hy : a.eval y = v2) (v : Value) (w2 : World) (hr : (Instr.makeSlice t v1 v2).run P w = .ok v w2)
 (d : Tmp) (hd : o.dst = some d) (h : wpList P ops Q rest { a with tmps := a.tmps.setIfInBounds d v } w2) : wpList P ops Q (o :: rest) a w := by
 refine wpList_step fun K hK => ?_
 rw [if_pos hw]
 unfold Oper.wp execOp
 simp only [ho, hx, hy, Sem.run_bind, hr, Result.andThen_ok]
 refine hK _ _ ?_
 rw [QN hd]; exact h
theorem zG {rest : List Oper} {o : Oper} (hw : Region.wanted o (yielded ops a.tmps) = true) (ty : TypeId) (x y : Operand) (ho : o.op = .store ty x y) (hd : o.dst = none) (b : Nat) (v : Value) (hx : a.eval x = .pointer (some ⟨b, 0, none⟩)) (hy : a.eval y = v)
 (old : Value) (t : TypeId) (hg : w.heap[b]? = some (.cells #[old] t (0, 0))) (hs : (P.info? ty).map (·.size) = some 1) (hv : v.oneCell' = true) (hc : v.cells = #[v]) (h : ∀ w2, w2 = w.setCell ⟨b, 0, none⟩ v → wpList P ops Q rest a w2) : wpList P ops Q (o :: rest) a w := by
 have h1 : Go.Proofs.Ytjiagjonlcadiaa.Has w b #[old] t := hg
 have h2 := run_storeCells_cells (P := P) b 0 [v] 0 w (fun j hj => by
  obtain rfl : j = 0 := by simpa using hj
  rw [h1.cellAt]; rfl) (fun j _ => h1.frozen _) (by simpa using hv)
 cases hi : P.info? ty with
 | none => rw [hi] at hs; cases hs
 | some i =>
  rw [hi] at hs
  have hs : i.size = 1 := Option.some.inj hs
  have hsv : (storeVar ty ⟨b, 0, none⟩ v).run P w = .ok () (w.setCell ⟨b, 0, none⟩ v) := by
   simp only [Nat.add_zero] at h2
   have h3 : (storeCells ⟨b, 0, none⟩ [v]).run P w = .ok () (w.setCell ⟨b, 0, none⟩ v) := h2
   simp [storeVar, sizeOf, typeInfo, hi, hc, hs, h3]
  refine wpList_step fun K hK => ?_
  rw [if_pos hw]
  unfold Oper.wp execOp
  simp only [ho, hx, hy, Instr.storeAt, Instr.sureAddr, Sem.run_bind, Sem.run_pure, Result.andThen_ok, hsv]
  refine hK _ _ ?_
  rw [qar hd]; exact h _ rfl
end Go
namespace Go.Proofs.Ytjiagjonlcadiaa
open Go.RowKit Go.Lib
theorem HasN.setAt {w : World} {b n : Nat} {t : TypeId} (h : HasN w b n t) (o : Nat) (v : Value) : HasN (w.setCell ⟨b, o, none⟩ v) b n t := let ⟨c, hn, h⟩ := h; ⟨_, by rw [Array.size_setIfInBounds]; exact hn, h.setAt o v⟩
theorem HasN.setCells {b n : Nat} {t : TypeId} : ∀ (vs : List Value) (o : Nat) (w : World), HasN w b n t → HasN (w.setCells b o vs) b n t
 | [], _, _, h => h
 | v :: r, o, _, h => HasN.setCells r (o + 1) _ (h.setAt o v)
theorem zU {B b : Nat} {a : World} (hb : B ≤ b) : ∀ (vs : List Value) (o : Nat) (w : World), Below B a w → Below B a (w.setCells b o vs)
 | [], _, _, h => h
 | v :: r, o, _, h => zU hb r (o + 1) _ (h.setCell (by exact hb) v)
theorem Has.one {w : World} {b : Nat} {v : Value} {t : TypeId} (h : Has w b #[v] t) : w.cell? ⟨b, 0, none⟩ = some v := by rw [h.cellAt]; rfl
end Go.Proofs.Ytjiagjonlcadiaa
end
namespace Go
section
open Go.RowKit
variable {P : Program}
structure Zone (lo hi : Nat) (A B : World) : Prop where
 os : B.os = A.os
 tape : B.tape = A.tape
 output : B.output = A.output
 size : B.heap.size = A.heap.size
 block : ∀ k, ¬ (lo ≤ k ∧ k < hi) → B.heap[k]? = A.heap[k]?
theorem Zone.put {lo hi : Nat} (A : World) (l : Nat) (o : Obj) (h1 : lo ≤ l) (h2 : l < hi) : Zone lo hi A (A.putObj l o) :=
 ⟨rfl, rfl, rfl, World.putObj_size, fun k hk => World.putObj_heap_other (fun e => hk (by omega))⟩
theorem Zone.wide {lo lo' hi : Nat} {A B : World} (h : Zone lo hi A B) (hl : lo' ≤ lo) : Zone lo' hi A B :=
 ⟨h.os, h.tape, h.output, h.size, fun k hk => h.block k (fun ⟨a, b⟩ => hk ⟨by omega, b⟩)⟩
theorem Zone.below {lo hi n0 : Nat} {w A B : World} (hb : Below n0 w A) (h : Zone lo hi A B) (hl : n0 ≤ lo) : Below n0 w B :=
 ⟨h.os.trans hb.os, h.tape.trans hb.tape, h.output.trans hb.output, by rw [h.size]; exact hb.size, fun k hk => (h.block k (fun ⟨a, _⟩ => by omega)).trans (hb.block k hk)⟩
def SeqZ (P : Program) (g : Nat) (lb : Array Value) (encs : Nat → Array Value) (N : Nat) (prot : Nat → Prop) (w : World) : Prop :=
 ∀ (n l : Nat) (J : Nat → Nat → World → Prop) (W : World), 1 ≤ n → Below w.heap.size w W →
  (∀ W1, Below W.heap.size W W1 → J W1.heap.size 0 W1) →
  (∀ s k A B, J s k A → Zone W.heap.size s A B → J s k B) →
  (∀ m s k W1, W.heap.size ≤ s → s ≤ W1.heap.size → k < N → J s k W1 → YieldAt Fence.wide m P l (encs k) W1 fun e W' =>
   e = .returned (.bool true) ∧ J s (k + 1) W' ∧ W1.heap.size ≤ W'.heap.size ∧ ∀ j, (W.heap.size ≤ j ∧ j < s) ∨ prot j → W'.heap[j]? = W1.heap[j]?) →
  CallsIn Fence.wide n P g (#[.func (.yield l) #[] #[]] ++ lb) W fun e W' => (∃ v, e = .returned v) ∧ ∃ s, W.heap.size ≤ s ∧ s ≤ W'.heap.size ∧ J s N W'
def ZPost (I : Nat → Nat → World → Prop) (lo s k : Nat) (prot : Nat → Prop) (W : World) : Exit → Act → World → Prop
 | .normal, _, W' => I s k W' ∧ W.heap.size ≤ W'.heap.size ∧ ∀ j, (lo ≤ j ∧ j < s) ∨ prot j → W'.heap[j]? = W.heap[j]?
 | _, _, _ => False
theorem range_z {g : Operand} {ps : Array Tmp} {assign body : Code} {Q : Exit → Act → World → Prop} {a : Act} {w : World} {gf : Nat} {lb : Array Value} (hg : a.eval g = .func (.func gf) #[] lb) (eg : ∀ args w, (callFunc gf args).run P w = .ok (.enter gf args) w)
 {encs : Nat → Array Value} {N : Nat} {prot : Nat → Prop} {w0 : World} (hseq : SeqZ P gf lb encs N prot w0) (hb0 : Below w0.heap.size w0 w) (hps : ∀ k, (encs k).size = ps.size) (hprot : ∀ j, prot j → j < w.heap.size)
 (I : Nat → Nat → World → Prop) (h0 : ∀ W1, Below w.heap.size w W1 → w.heap.size + 2 ≤ W1.heap.size → I W1.heap.size 0 W1) (hz : ∀ s k A B, I s k A → Zone w.heap.size s A B → I s k B)
 (asg : Nat → Array Value → Array Value)
 (hassign : ∀ (m l k : Nat) (W : World) (K : Act → World → Prop), K { tmps := asg k ((ps.zip (encs k)).foldl (fun t (p, v) => t.setIfInBounds p v) a.tmps), defers := [] } W →
  assign.wpIn (Fence.wide.inRound l) m P (Exit.then K (fun _ _ _ => False)) { tmps := (ps.zip (encs k)).foldl (fun t (p, v) => t.setIfInBounds p v) a.tmps, defers := [] } W)
 (hbody : ∀ (m l s k : Nat) (W : World), w.heap.size + 2 ≤ s → s ≤ W.heap.size → k < N → I s k W →
  body.wpIn (Fence.wide.inRound l) m P (ZPost I w.heap.size s (k + 1) prot W) { tmps := asg k ((ps.zip (encs k)).foldl (fun t (p, v) => t.setIfInBounds p v) a.tmps), defers := [] } W)
 (hdone : ∀ (s : Nat) (W : World), w.heap.size + 2 ≤ s → s ≤ W.heap.size → I s N W → W.heap[w.heap.size]? = some (.deferred (some [])) → Q .normal { a with defers := { target := .collected w.heap.size, args := #[] } :: a.defers } W) :
 (Code.rangeFunc g ps assign body).wp P Q a w := by
 refine (wpIn_wide (n := 3)).1 (wpIn_rangeFunc fun fn hfn => ?_)
 obtain ⟨rec, hrec⟩ : ∃ rec : LoopState → Option Code → Loop, rec = fun st pe => { state := st, pending := pe, fn, tmps := a.tmps, params := ps, assign, body, defers := w.heap.size } := ⟨_, rfl⟩
 obtain ⟨W1, hW1⟩ : ∃ W1, (w.alloc (.deferred (some []))).alloc (.loop (rec .ready none)) = W1 := ⟨_, rfl⟩
 have hs1 : W1.heap.size = w.heap.size + 2 := by rw [← hW1]; simp
 have hL1 : W1.heap[w.heap.size + 1]? = some (.loop (rec .ready none)) := by
  have := World.alloc_heap_new (w.alloc (.deferred (some []))) (.loop (rec .ready none))
  rw [World.size_alloc] at this
  rw [← hW1]; exact this
 have hb1 : Below w.heap.size w W1 := by rw [← hW1]; exact ((Below.refl _ w).alloc (Nat.le_refl _) _).alloc (by simp) _
 have hK1 : W1.heap[w.heap.size]? = some (.deferred (some [])) := by
  rw [← hW1]; exact (Below.heap_alloc _ _ _ (by simp)).trans (World.alloc_heap_new w _)
 refine ⟨w.heap.size + 1, [{ target := .collected w.heap.size, args := #[] }], W1, { target := .fn (.func gf) lb, args := #[.func (.yield (w.heap.size + 1)) #[] #[]] }, W1, gf,
  #[.func (.yield (w.heap.size + 1)) #[] #[]] ++ lb, W1, ?_, ?_, fun _ _ => trivial, ?_, fun h => (by cases h), ?_⟩
 · rw [← hW1, hrec]; exact run_enterLoop_outer _ _ _ _ _
 · simp only [resolve, hg]
   simp [go_sem]
 · simp [invoke, go_sem, eg]
 · refine (hseq (3 - 1) (w.heap.size + 1)
    (fun s k W => I s k W ∧ w.heap.size + 2 ≤ s ∧ W.heap[w.heap.size + 1]? = some (.loop (rec .ready none)) ∧ W.heap[w.heap.size]? = some (.deferred (some []))) W1 (by decide) (hb0.trans (hb1.mono hb0.size)) ?_ ?_ ?_).mono ?_
   · intro W2 hb2
     have hz2 := hb2.size
     exact ⟨h0 W2 (hb1.trans (hb2.mono hb1.size)) (by omega), by omega, (hb2.block _ (by omega)).trans hL1, (hb2.block _ (by omega)).trans hK1⟩
   · rintro s k A B ⟨hi, hs, hl, hd⟩ hq
     exact ⟨hz s k A B hi (hq.wide (by omega)), hs, (hq.block _ (by omega)).trans hl, (hq.block _ (by omega)).trans hd⟩
   · rintro m s k W _ hs2 hk ⟨hi, hs, hl, hd⟩
     have hlt : w.heap.size + 1 < W.heap.size := (Array.getElem?_eq_some_iff.1 hl).1
     have hy := run_yield (P := P) (args := encs k) hl (by rw [hrec]; exact hps k)
     rw [hrec] at hy
     refine ⟨fn, _, assign, body, hy, roundIn_of_wpIn hfn (hassign m _ k W _ ?_)⟩
     clear hy
     refine ⟨_, run_beginRound hl (by rw [hrec]), ?_⟩
     have hl2 : (W.putObj (w.heap.size + 1) (.loop { rec .ready none with state := .busy })).heap[w.heap.size + 1]? = some (.loop { rec .ready none with state := .busy }) := World.putObj_heap_same hlt
     have hd2 : (W.putObj (w.heap.size + 1) (.loop { rec .ready none with state := .busy })).heap[w.heap.size]? = some (.deferred (some [])) := (World.putObj_heap_other (by omega)).trans hd
     have ho2 : ∀ j, j ≠ w.heap.size + 1 → (W.putObj (w.heap.size + 1) (.loop { rec .ready none with state := .busy })).heap[j]? = W.heap[j]? := fun j hj => World.putObj_heap_other hj
     have hi2 := hz s k _ _ hi (Zone.put W (w.heap.size + 1) (.loop { rec .ready none with state := .busy }) (by omega) (by omega))
     have hsz2 : (W.putObj (w.heap.size + 1) (.loop { rec .ready none with state := .busy })).heap.size = W.heap.size := World.putObj_size
     generalize W.putObj (w.heap.size + 1) (.loop { rec .ready none with state := .busy }) = W2 at *
     refine wpIn_mono (hbody m (w.heap.size + 1) s k W2 hs (by omega) hk hi2) ?_
     rintro e a3 W3 hp
     cases e with
     | normal =>
      obtain ⟨hi3, hsz3, hk3⟩ := hp
      have hl3 := (hk3 (w.heap.size + 1) (.inl ⟨by omega, by omega⟩)).trans hl2
      have hd3 := (hk3 w.heap.size (.inl ⟨by omega, by omega⟩)).trans hd2
      have hr := run_endRound (P := P) none hl3
      refine ⟨_, _, hr, rfl, ⟨hz _ _ _ _ hi3 (Zone.put W3 _ _ (by omega) (by omega)), hs, ?_, (World.putObj_heap_other (by omega)).trans hd3⟩, by rw [World.putObj_size]; omega, fun j hj => ?_⟩
      · subst hrec
        exact World.putObj_heap_same (Array.getElem?_eq_some_iff.1 hl3).1
      · have hj1 : j ≠ w.heap.size + 1 := by
         rcases hj with ⟨h1, _⟩ | h1
         · omega
         · have := hprot j h1; omega
        have hj2 : (w.heap.size ≤ j ∧ j < s) ∨ prot j := hj.imp (fun ⟨h1, h2⟩ => ⟨by omega, h2⟩) id
        exact (World.putObj_heap_other hj1).trans ((hk3 j hj2).trans (ho2 j hj1))
     | ret => exact hp.elim
     | exit id => exact hp.elim
     | goto t => exact hp.elim
     | panic ch => exact hp.elim
     | outgrown => exact hp.elim
   · rintro e W2 ⟨⟨v, rfl⟩, s, hs, hs', hi, hs2, hl, hd⟩
     refine ⟨none, _, by have := run_endLoop (P := P) hl (by rw [hrec]; simp); rw [hrec] at this; exact this, hdone s _ hs2 (by rw [World.putObj_size]; exact hs') (hz _ _ _ _ hi (Zone.put W2 _ _ (by omega) (by omega))) ((World.putObj_heap_other (by omega)).trans hd)⟩
end
end Go
section
namespace Go
theorem RoundIn.into {m l l2 : Nat} {P : Program} {f : FuncId} {tmps : Array Value} {assign body : Code} {w : World} {R : Ending → World → Prop}
 (h : RoundIn Fence.wide m P l f tmps assign body w R) : RoundIn (Fence.wide.inRound l2) m P l f tmps assign body w R := h
end Go
namespace Go.Proofs.Ytjiagjonlcadiaa
open Go.RowKit Go.Shelf
attribute [local go_sem] Oper.semAt_some
def Figs (w : World) (b len : Nat) (g : Nat → Int) : Prop := b < w.heap.size ∧ ∀ j, j < len → w.cell? ⟨b, j, none⟩ = some (.int .u32 (g j))
section figs
variable {w w' : World} {b len : Nat} {g : Nat → Int}
theorem Figs.lt (h : Figs w b len g) : b < w.heap.size := h.1
theorem Figs.same (h : Figs w b len g) (he : w'.heap[b]? = w.heap[b]?) (hs : w.heap.size ≤ w'.heap.size) : Figs w' b len g :=
 ⟨Nat.lt_of_lt_of_le h.1 hs, fun j hj => (World.cell?_of_block (w := w) (w' := w') (a := ⟨b, j, none⟩) he).trans (h.2 j hj)⟩
theorem Figs.call (h : Figs w b len g) (hb : Below w.heap.size w w') : Figs w' b len g := h.same (hb.block _ h.1) hb.size
theorem Figs.drew (h : Figs w b len g) : Figs w.drew b len g := h
theorem Figs.alloc (h : Figs w b len g) (o : Obj) : Figs (w.alloc o) b len g := h.call ((Below.refl _ _).alloc (Nat.le_refl _) _)
theorem Figs.other (h : Figs w b len g) (a : Addr) (v : Value) (hb : b ≠ a.block) : Figs (w.setCell a v) b len g :=
 h.same (heap_setCell_other w a b v hb) ((Below.refl 0 w).setCell (p := a) (Nat.zero_le _) v).size
theorem Figs.setRow_other (h : Figs w b len g) (k : Nat) (c : Array Value) (hg : b ≠ k) : Figs (w.setRow k c) b len g :=
 h.same (Go.setRow_other w k b c hg) (below_setRow (Below.refl 0 w) k c (Nat.zero_le _)).size
theorem Has.figs {K : Nat} {f : Nat → Int} {t : TypeId} (h : Has w b (row .u32 K f) t) : Figs w b K f := ⟨h.lt, fun j hj => h.cell j hj⟩
end figs
theorem bku_seq (Bs b len cap : Nat) (g : Nat → Int) (hlen : len ≤ 1000000) (w : World) (hBs : Has w Bs #[.slice (some ⟨b, 0, none⟩) len cap] 86) (hc : Figs w b len g) :
 SeqZ Try.prog 126 #[.pointer (some ⟨Bs, 0, none⟩)] (fun k => #[Value.int .i64 ((len - 1 - k : Nat) : Int), Value.int .u32 (g (len - 1 - k))]) len (fun j => j = Bs ∨ j = b) w := by
 intro n l J W hn hW h0 hz hY
 have mBs := hBs.below hW hBs.lt
 have mc := hc.same (hW.block _ hc.lt) hW.size
 have hj0 := h0 W (Below.refl _ _)
 have MBs := Lib.hid mBs; clear mBs
 have Mc := Lib.hid mc; clear mc
 have H0 := Lib.hid h0; clear h0
 have Hz := Lib.hid hz; clear hz
 clear hBs hc hW
 refine callsIn_of_wp Try.func126 rfl trivial ?_ rfl
 simp only [Try.ntmps126, List.size_toArray, List.length_cons, List.length_nil, Nat.reduceAdd, Nat.reduceSub, Array.replicate_succ, Array.replicate_zero, List.push_toArray, List.append_toArray, List.nil_append, List.cons_append]
 have hBsW : W.cell? ⟨Bs, 0, none⟩ = some (.slice (some ⟨b, 0, none⟩) len cap) := by rw [MBs.out.cellAt]; rfl
 gi_wp2
 gi_loopw [3] (fun i wr => ∃ m : Nat, m ≤ len ∧ i = .int .i64 ((m : Int) - 1) ∧ J W.heap.size (len - m) wr ∧ qbK Bs b W wr ∧ W.heap.size ≤ wr.heap.size)
  (fun i _ => (intOf i + 1).toNat)
 case atStart => exact ⟨len, Nat.le_refl _, rfl, by rw [Nat.sub_self]; exact hj0, ⟨rfl, rfl⟩, Nat.le_refl _⟩
 case round =>
  obtain ⟨m, hm, rfl, hJs, hnx, hsz⟩ := hrel
  have hBs' := (World.cell?_of_block (w := W) (w' := wr) (a := ⟨Bs, 0, none⟩) hnx.1).trans hBsW
  rcases Nat.eq_zero_or_pos m with h0m | h0m
  · subst h0m
    gi_wp2
    go_end0
    exact ⟨⟨_, rfl⟩, _, Nat.le_refl _, hsz, hJs⟩
  · obtain ⟨j, rfl⟩ : ∃ j, m = j + 1 := ⟨m - 1, by omega⟩
    rw [show ((j + 1 : Nat) : Int) - 1 = (j : Int) by omega]
    have hj : j < len := by omega
    have hcx : wr.cell? ⟨b, j, none⟩ = some (.int .u32 (g j)) := (World.cell?_of_block (w := W) (w' := wr) (a := ⟨b, j, none⟩) hnx.2).trans (Mc.out.2 j hj)
    obtain ⟨fn, tmps, assign, body, hy, hR⟩ := hY (n - 1) W.heap.size (len - (j + 1)) wr (Nat.le_refl _) hsz (by omega) hJs
    rw [show len - 1 - (len - (j + 1)) = j by omega] at hy
    rw [show len - (j + 1) + 1 = len - j by omega] at hR
    gi_wp2
    refine hR.mono ?_
    rintro e W3 ⟨rfl, hJ3, hsz3, hk3⟩
    gi_wp2
    go_roundw
    case rel => exact ⟨j, by omega, rfl, hJ3, keep2_t hnx ⟨hk3 Bs (.inr (.inl rfl)), hk3 b (.inr (.inr rfl))⟩, by omega⟩
    case measure => simp [intOf]
theorem bku_call (a : Option Addr) (len cap : Nat) (w : World) : Calls Try.prog 116 #[.slice a len cap] w fun e w' => (e = .returned (.func (.func 126) #[] #[.pointer (some ⟨w.heap.size, 0, none⟩)]) ∧ Has w' w.heap.size #[.slice a len cap] 86) ∧ Below w.heap.size w w' := by
 refine (callsIn_wide (n := 0)).1 (callsIn_of_wp Try.func116 rfl trivial ?_ rfl)
 simp only [Try.ntmps116, List.size_toArray, List.length_cons, List.length_nil, Nat.reduceAdd, Nat.reduceSub, Array.replicate_succ, Array.replicate_zero, List.push_toArray, List.append_toArray, List.nil_append, List.cons_append]
 gi_wp2
 go_ret
 exact ⟨⟨rfl, Has.new w _ _⟩, Qc w _⟩
theorem qdi (a : Option Addr) (len cap : Nat) (w : World) : Calls Try.prog 103 #[.slice a len cap] w fun e w' => (e = .returned (.func (.func 115) #[] #[.pointer (some ⟨w.heap.size, 0, none⟩)]) ∧ Has w' w.heap.size #[.slice a len cap] 86) ∧ Below w.heap.size w w' := by
 refine (callsIn_wide (n := 0)).1 (callsIn_of_wp Try.func103 rfl trivial ?_ rfl)
 simp only [Try.ntmps103, List.size_toArray, List.length_cons, List.length_nil, Nat.reduceAdd, Nat.reduceSub, Array.replicate_succ, Array.replicate_zero, List.push_toArray, List.append_toArray, List.nil_append, List.cons_append]
 gi_wp2
 go_ret
 exact ⟨⟨rfl, Has.new w _ _⟩, Qc w _⟩
theorem ent116 : _root_.Go.Enters Try.prog 116 := ⟨_, Try.func116, by kernel_rfl, by kernel_rfl⟩
theorem ent103 : _root_.Go.Enters Try.prog 103 := ⟨_, Try.func103, by kernel_rfl, by kernel_rfl⟩
theorem ent126 : ∀ (args : Array Value) (w : World), (callFunc 126 args).run Try.prog w = .ok (.enter 126 args) w := Go.Proofs.enters_of Try.func126 (by kernel_rfl) rfl
theorem ent115 : ∀ (args : Array Value) (w : World), (callFunc 115 args).run Try.prog w = .ok (.enter 115 args) w := Go.Proofs.enters_of Try.func115 (by kernel_rfl) rfl
theorem bkf_seq (Bs b len cap : Nat) (g : Nat → Int) (hlen : len ≤ 1000000) (w0 : World) (hBs : Has w0 Bs #[.slice (some ⟨b, 0, none⟩) len cap] 86) (hc : Figs w0 b len g) :
 SeqZ Try.prog 115 #[.pointer (some ⟨Bs, 0, none⟩)] (fun k => #[Value.int .u32 (g (len - 1 - k))]) len (fun j => j = Bs ∨ j = b) w0 := by
 intro n l J w hn hW h0 hz hY
 have m1 := hBs.below hW hBs.lt
 have mc := hc.same (hW.block _ hc.lt) hW.size
 have lBs := m1.lt
 have lb := mc.lt
 have M1 := Lib.hid m1; clear m1
 have Mc := Lib.hid mc; clear mc
 clear hBs hc hW
 refine callsIn_of_wp_marks Try.func115 rfl trivial (wpIn_wide.2 ?_) rfl
 simp only [Try.ntmps115, List.size_toArray, List.length_cons, List.length_nil, Nat.reduceAdd, Nat.reduceSub, Array.replicate_succ, Array.replicate_zero, List.push_toArray, List.append_toArray, List.nil_append, List.cons_append]
 repeat ((fail_if_success (with_reducible (show wpList _ _ _ _ _ _))); go_step)
 (refine wpList_step (fun K hK => ?_); go_simp; (try go_bits); refine hK _ _ ?_; clear hK K)
 refine wpList_nil ?_
 have MY := Lib.hid (Has.new w #[.func (.yield l) #[] #[]] 142)
 have HB := Lib.hid (Qc w (.cells #[.func (.yield l) #[] #[]] 142))
 replace M1 := Lib.hid (M1.out.alloc (.cells #[.func (.yield l) #[] #[]] 142))
 replace Mc := Lib.hid (Mc.out.alloc (.cells #[.func (.yield l) #[] #[]] 142))
 obtain ⟨yw1, hwyw1⟩ : ∃ ww, ww = w.alloc (.cells #[.func (.yield l) #[] #[]] 142) := ⟨_, rfl⟩
 rw [← hwyw1] at M1 Mc MY HB ⊢
 clear hwyw1
 repeat ((fail_if_success (with_reducible (show wpList _ _ _ _ _ _))); go_step)
 have MYl := MY.out.lt
 refine QI (by rfl) 86 _ rfl (Bs) rfl (.slice (some ⟨b, 0, none⟩) len cap) _ M1.out.one Try.underlying86 rfl 5 rfl ?_
 (try simp only [Act.put, sI, sS, sZ])
 refine qm (by rfl) rfl rfl (by rfl) ent116 (by rfl) (bku_call _ _ _ _) 6 rfl ?_
 rintro e uw1 ⟨⟨rfl, hbs⟩, hb⟩
 replace M1 := Lib.hid (M1.out.call hb)
 replace Mc := Lib.hid (Mc.out.call hb)
 replace MY := Lib.hid (MY.out.call hb)
 replace HB := Lib.hid (qh HB.out hb)
 have MS := Lib.hid hbs; clear hbs
 refine ⟨_, rfl, ?_⟩
 clear hb
 (try simp only [Act.put, sI, sS, sZ])
 refine wpList_nil ?_
 have gY : w.heap.size < yw1.heap.size := MYl
 obtain ⟨BS, hBS⟩ : ∃ B, B = yw1.heap.size := ⟨_, rfl⟩
 rw [← hBS] at MS gY ⊢
 clear hBS
 repeat ((fail_if_success (with_reducible (show wpList _ _ _ _ _ _))); go_step)
 have hlS := MS.out.lt
 have hlb := Mc.out.lt
 have hsz := HB.out.size
 have hst := bku_seq BS b len cap g hlen uw1 MS.out Mc.out
 have hf : ∀ (k : Nat) (t : Array Value), ((#[7, 8] : Array Tmp).zip #[Value.int .i64 ((len - 1 - k : Nat) : Int), Value.int .u32 (g (len - 1 - k))]).foldl (fun t (p, v) => t.setIfInBounds p v) t = (t.setIfInBounds 7 (.int .i64 ((len - 1 - k : Nat) : Int))).setIfInBounds 8 (.int .u32 (g (len - 1 - k))) := fun k t => by simp
 refine range_z (gf := 126) (lb := #[.pointer (some ⟨BS, 0, none⟩)]) rfl ent126 hst (Below.refl _ _) (fun _ => rfl) (fun j hj => by rcases hj with rfl | rfl <;> omega)
  (fun s k V => uw1.heap.size ≤ s ∧ J s k V ∧ Has V w.heap.size #[.func (.yield l) #[] #[]] 142) ?h0 ?hz (fun k t => t.setIfInBounds 4 (.int .u32 (g (len - 1 - k)))) ?assign ?body ?done
 case h0 =>
  intro W1 hb hs
  exact ⟨hb.size, h0 W1 (HB.out.trans (hb.mono hsz)), MY.out.below hb (by omega)⟩
 case hz =>
  rintro s k A B ⟨h1, h2, h3⟩ hq
  exact ⟨h1, hz s k A B h2 (hq.wide hsz), (hq.block _ (by omega)).trans h3⟩
 case assign =>
  intro m l2 k V K hK
  simp only [hf, sI, sS, sZ] at hK ⊢
  gi_wp2
  exact hK
 case body =>
  rintro m l2 s k V hs hsV hk ⟨h1, h2, h3⟩
  have hcy := h3.one
  obtain ⟨fn, tmps, assign, body, hy, hR⟩ := hY (m - 1) s k V (by omega) hsV hk h2
  have hR' := hR.into (l2 := l2)
  clear hR hst hz h0 hY h2
  simp only [hf, sI, sS, sZ]
  clear hf
  gi_wp2
  refine ⟨fun h => (by cases h), hR'.mono ?_⟩
  rintro e V3 ⟨rfl, hJ3, hsz3, hk3⟩
  gi_wp2
  exact ⟨⟨h1, hJ3, (hk3 _ (.inl ⟨by omega, by omega⟩)).trans h3⟩, hsz3, fun j hj => hk3 j (by rcases hj with ⟨h4, h5⟩ | rfl | rfl <;> first | exact .inl ⟨by omega, by omega⟩ | exact .inr (.inr rfl))⟩
 case done =>
  rintro s V hs hsV ⟨h1, h2, h3⟩ hD
  have hD2 := Lib.hid hD
  clear hD
  repeat ((fail_if_success (with_reducible (show wpList _ _ _ _ _ _))); go_step)
  refine ⟨by simp, .inl ⟨_, _, rfl, run_takeDeferred hD2.out, ?_⟩⟩
  refine ⟨_, results_none rfl _ _ _, ⟨_, rfl⟩, s, by omega, by rw [World.putObj_size]; exact hsV, hz _ _ _ _ h2 (Zone.put V _ _ hsz (by omega))⟩
end Go.Proofs.Ytjiagjonlcadiaa
end
section
namespace Go
open Go.RowKit
theorem qbu {A B : World} {lo s : Nat} {e : TypeId} {size : Nat} {v : Value} {n : Nat} {xs : List Value} (h : A.ownsRow s e size v n xs) (hq : Zone lo s A B) : B.ownsRow s e size v n xs := by
 obtain ⟨h1, h2⟩ := h
 refine ⟨h1, h2.imp id ?_⟩
 rintro ⟨g, cap, cur, hv, hb, hg, hr⟩
 exact ⟨g, cap, cur, hv, hb, (hq.block g (fun ⟨_, h⟩ => by omega)).trans hg, hr⟩
theorem ownsRow_base {A : World} {b s : Nat} {e : TypeId} {size : Nat} {v : Value} {n : Nat} {xs : List Value} (h : A.ownsRow s e size v n xs) (hb : b ≤ s) : A.ownsRow b e size v n xs := by
 obtain ⟨h1, h2⟩ := h
 refine ⟨h1, h2.imp id ?_⟩
 rintro ⟨g, cap, cur, hv, hb', hr⟩
 exact ⟨g, cap, cur, hv, by omega, hr⟩
theorem ownsRow_s {W : World} {base : Nat} {e : TypeId} {size n : Nat} {v : Value} {xs : List Value} (h : W.ownsRow base e size v (n + 1) xs) : ∃ g cap, v = .slice (some ⟨g, 0, none⟩) (n + 1) cap ∧ base ≤ g := by
 rcases h.2 with ⟨_, h⟩ | ⟨g, cap, cur, hv, hb, _⟩
 · omega
 · exact ⟨g, cap, hv, hb⟩
end Go
namespace Go.Proofs.Ytjiagjonlcadiaa
open Go.RowKit Go.Shelf
attribute [local go_sem] Oper.semAt_some
theorem info91 : (Try.prog.info? 91).map (fun i => (i.zero, i.size, i.bytes)) = some (some (.int .u32 0), 1, 4) := by kernel_rfl
def qc8 (vals : Nat → Int) (k : Nat) : List Value := (List.range k).map fun j => Value.int .u32 (vals j)
theorem fvals_succ (vals : Nat → Int) (k : Nat) : qc8 vals (k + 1) = qc8 vals k ++ [.int .u32 (vals k)] := by simp [qc8, List.range_succ]
theorem apseq_any (gf : Nat) (lb : Array Value) (len : Nat) (hlen : len ≤ 1000000) (vals : Nat → Int) (prot : Nat → Prop) (eg : ∀ (args : Array Value) (w : World), (callFunc gf args).run Try.prog w = .ok (.enter gf args) w) (w : World)
 (hseq : SeqZ Try.prog gf lb (fun k => #[.int .u32 (vals k)]) len prot w) (hprot : ∀ j, prot j → j < w.heap.size) :
 Calls Try.prog 118 #[.slice none 0 0, .func (.func gf) #[] lb] w fun e w' => (∃ v, e = .returned v ∧ w'.ownsRow w.heap.size 91 1 v len (qc8 vals len)) ∧ Below w.heap.size w w' := by
 obtain ⟨i0, hi, hz0, hz1, hz2⟩ := info_parts info91
 refine (callsIn_wide (n := 3)).1 (callsIn_of_wp_marks Try.func118 rfl trivial (wpIn_wide.2 ?_) rfl)
 simp only [Try.ntmps118, List.size_toArray, List.length_cons, List.length_nil, Nat.reduceAdd, Nat.reduceSub, Array.replicate_succ, Array.replicate_zero, List.push_toArray, List.append_toArray, List.nil_append, List.cons_append]
 repeat ((fail_if_success (with_reducible (show wpList _ _ _ _ _ _))); go_step)
 iterate 2 (refine wpList_step (fun K hK => ?_); go_simp; (try go_bits); refine hK _ _ ?_; clear hK K)
 refine wpList_nil ?_
 have M2 := Lib.hid (Has.new w  (#[.slice none 0 0]) 86)
 have HB := Lib.hid (Qc w (.cells (#[.slice none 0 0]) 86))
 obtain ⟨yw1, hwyw1⟩ : ∃ ww, ww = (w.alloc (.cells (#[.slice none 0 0]) 86)) := ⟨_, rfl⟩
 rw [← hwyw1] at M2 HB ⊢
 clear hwyw1
 repeat ((fail_if_success (with_reducible (show wpList _ _ _ _ _ _))); go_step)
 (refine wpList_step (fun K hK => ?_); go_simp; (try go_bits); refine hK _ _ ?_; clear hK K)
 refine wpList_nil ?_
 repeat ((fail_if_success (with_reducible (show wpList _ _ _ _ _ _))); go_step)
 have hlt := M2.out.lt
 have hsz := HB.out.size
 have hf : ∀ (k : Nat) (t : Array Value), ((#[7] : Array Tmp).zip #[Value.int .u32 (vals k)]).foldl (fun t (p, v) => t.setIfInBounds p v) t = t.setIfInBounds 7 (.int .u32 (vals k)) := fun k t => by simp
 refine range_z (gf := gf) (lb := lb) rfl eg hseq HB.out (fun _ => rfl) (fun j hj => by have := hprot j hj; omega)
  (fun s k V => ∃ v, Has V w.heap.size #[v] 86 ∧ V.ownsRow s 91 1 v k (qc8 vals k) ∧ Below w.heap.size w V ∧ yw1.heap.size ≤ s) ?h0 ?hz (fun k t => t.setIfInBounds 5 (.int .u32 (vals k))) ?assign ?body ?done
 case h0 =>
  intro W1 hb hs
  exact ⟨_, M2.out.below hb hlt, World.ownsRow_nil _ _ _ _, HB.out.trans (hb.mono hsz), hb.size⟩
 case hz =>
  rintro s k A B ⟨v, h1, h2, h3, h4⟩ hq
  exact ⟨v, (hq.block _ (by omega)).trans h1, qbu h2 hq, hq.below h3 hsz, h4⟩
 case assign =>
  intro m l2 k V K hK
  simp only [hf, sI, sS, sZ] at hK ⊢
  gi_wp2
  exact hK
 case body =>
  rintro m l2 s k V hs hsV hk ⟨v, h1, h2, h3, h4⟩
  simp only [hf, sI, sS, sZ]
  clear hf hseq
  have M2 := Lib.hid h1
  have Hown := Lib.hid h2
  have H3 := Lib.hid h3
  clear h1 h2 h3
  repeat ((fail_if_success (with_reducible (show wpListIn _ _ _ _ _ _ _ _))); gi_step)
  refine Qg (by kernel_rfl) ?_
  refine QI (by rfl) 86 _ rfl (w.heap.size) rfl (v) _ M2.out.one Try.underlying86 rfl 8 rfl ?_
  (try simp only [Act.put, sI, sS, sZ])
  iterate 2 (refine wpList_step (fun K hK => ?_); go_simp; (try go_bits); refine hK _ _ ?_; clear hK K)
  refine wpList_append_own _ rfl _ _ 86 rfl s 91 i0 (.int .u32 0) 1 4 Try.underlying86 hi hz0 hz1 hz2 rfl (by decide) v k (qc8 vals k) rfl (Hown.out.alloc _) ⟨V.heap.size, 0, none⟩ 1 1 [.int .u32 (vals k)] rfl rfl (cell_one_new _ _ _) (by simp [Value.oneCell']) (by unfold maxLen; omega) (by omega) (by simp; omega) ?_
  intro v' w1 hown' hgrow _
  obtain ⟨g', cap', rfl, hg'⟩ := ownsRow_s hown'
  have hne : ∀ j, j < s → some j ≠ v.ownBlock := fun j hj e => by have := (Hown.out.lt j e.symm).1; omega
  have mB : Has w1 w.heap.size #[v] 86 := (hgrow.block _ (by have := M2.out.lt; simp; omega) (hne _ (by omega))).trans (M2.out.alloc _)
  have hszg := hgrow.size
  rw [World.size_alloc] at hszg
  (try simp only [Act.put, sI, sS, sZ])
  refine zG (by rfl) 86 _ _ rfl rfl (w.heap.size) (.slice (some ⟨g', 0, none⟩) (k + 1) cap') rfl rfl _ _ mB (by kernel_rfl) rfl rfl ?_
  intro w2 hw2
  refine wpList_nil ?_
  have hs2 : w1.heap.size ≤ w2.heap.size := by rw [hw2]; exact ((Below.refl 0 w1).setCell (p := ⟨w.heap.size, 0, none⟩) (Nat.zero_le _) _).size
  refine ⟨⟨_, by rw [hw2]; exact mB.setAt 0 _, ?_, ?_, h4⟩, by omega, fun j hj => ?_⟩
  · rw [fvals_succ, hw2]
    exact hown'.kept (grownBy_setCell' w1 w.heap.size _) (.inr (by unfold Value.ownBlock; intro e; injection e with e; have e2 : g' = w.heap.size := e; omega))
  · rw [hw2]
    have hb1 : Below w.heap.size w w1 := (H3.out.alloc H3.out.size (.cells #[.int .u32 (vals k)] 91)).grown hgrow (by rw [World.size_alloc]; have := H3.out.size; omega) (fun j e => by have := (Hown.out.lt j e).1; omega)
    exact hb1.setCell (p := ⟨w.heap.size, 0, none⟩) (Nat.le_refl _) _
  · have hj1 : j < s ∧ j ≠ w.heap.size := by
     rcases hj with ⟨a, b⟩ | h
     · exact ⟨b, by omega⟩
     · have := hprot j h; exact ⟨by omega, by omega⟩
    rw [hw2]
    exact (heap_setCell_other w1 ⟨w.heap.size, 0, none⟩ j _ hj1.2).trans ((hgrow.block j (by rw [World.size_alloc]; omega) (hne j hj1.1)).trans (Below.heap_alloc V _ j (by omega)))
 case done =>
  rintro s V hs hsV ⟨v, h1, h2, h3, h4⟩ hD
  have hD2 := Lib.hid hD
  have M2 := Lib.hid h1
  have Hown := Lib.hid h2
  have H3 := Lib.hid h3
  clear hD h1 h2 h3 hseq hf
  repeat ((fail_if_success (with_reducible (show wpList _ _ _ _ _ _))); go_step)
  refine QI (by rfl) 86 _ rfl (w.heap.size) rfl (v) _ M2.out.one Try.underlying86 rfl 12 rfl ?_
  (try simp only [Act.put, sI, sS, sZ])
  (refine wpList_step (fun K hK => ?_); go_simp; (try go_bits); refine hK _ _ ?_; clear hK K)
  refine wpList_nil ?_
  repeat ((fail_if_success (with_reducible (show wpList _ _ _ _ _ _))); go_step)
  refine ⟨by simp, .inl ⟨_, _, rfl, run_takeDeferred hD2.out, ?_⟩⟩
  have hq : Zone yw1.heap.size s V (V.putObj yw1.heap.size (.deferred none)) := Zone.put V _ _ (Nat.le_refl _) (by omega)
  refine ⟨_, results_tmp rfl _ _ _, ⟨_, rfl, ownsRow_base (qbu Hown.out hq) (by omega)⟩, hq.below H3.out hsz⟩
end Go.Proofs.Ytjiagjonlcadiaa
end
namespace Go.Proofs.Ytjiagjonlcadiaa
section
open Go.RowKit Go.Lib
def L0 : Nat := 7237005577332262213973186563042994240857116359379907606001950938285454250989
def r17 (n : Nat) : Array Value := row .u32 17 (dg 65536 n)
theorem zN (n : Nat) : (r17 n).size = 17 := QG _ _ _
def z92 : Array Value := (#[.int .u32 0, .int .u32 0, .int .u32 0, .int .u32 0, .int .u32 0, .int .u32 0, .int .u32 0, .int .u32 0, .int .u32 0, .int .u32 0, .int .u32 0, .int .u32 0, .int .u32 0, .int .u32 0, .int .u32 0, .int .u32 0, .int .u32 0] : Array Value)
theorem al92 (w : World) : (Instr.alloc 92 true (.tuple #[])).run Try.prog w = .ok (.pointer (some ⟨w.heap.size, 0, none⟩)) (w.alloc (.cells z92 92)) := by
 unfold z92
 go_simp
theorem bd92 : Try.prog.built 92 [(0, .int .u32 54253), (1, .int .u32 23797), (2, .int .u32 25370), (3, .int .u32 22546), (4, .int .u32 40150), (5, .int .u32 41719), (6, .int .u32 63966), (7, .int .u32 5342), (15, .int .u32 4096)] = some (r17 L0) := by kernel_rfl
theorem qdG (w : World) : Calls Try.prog 105 #[] w fun e w' => e = .returned (.agg (r17 L0)) ∧ Below w.heap.size w w' := by
 go_enter Try.func105, Try.ntmps105
 repeat ((fail_if_success (with_reducible (show wpList _ _ _ _ _ _))); go_step)
 (refine wpList_step (fun K hK => ?_); go_simp; (try go_bits); refine hK _ _ ?_; clear hK K)
 refine wpList_nil ?_
 have M0 := Lib.hid (HasN.new w  (#[.int .u32 0, .int .u32 0, .int .u32 0, .int .u32 0, .int .u32 0, .int .u32 0, .int .u32 0, .int .u32 0, .int .u32 0, .int .u32 0, .int .u32 0, .int .u32 0, .int .u32 0, .int .u32 0, .int .u32 0, .int .u32 0, .int .u32 0] : Array Value) 92 17 (by kernel_rfl))
 have HB := Lib.hid (Qc w (.cells (#[.int .u32 0, .int .u32 0, .int .u32 0, .int .u32 0, .int .u32 0, .int .u32 0, .int .u32 0, .int .u32 0, .int .u32 0, .int .u32 0, .int .u32 0, .int .u32 0, .int .u32 0, .int .u32 0, .int .u32 0, .int .u32 0, .int .u32 0] : Array Value) 92))
 obtain ⟨yw1, hwyw1⟩ : ∃ ww, ww = (w.alloc (.cells (#[.int .u32 0, .int .u32 0, .int .u32 0, .int .u32 0, .int .u32 0, .int .u32 0, .int .u32 0, .int .u32 0, .int .u32 0, .int .u32 0, .int .u32 0, .int .u32 0, .int .u32 0, .int .u32 0, .int .u32 0, .int .u32 0, .int .u32 0] : Array Value) 92)) := ⟨_, rfl⟩
 rw [← hwyw1] at M0 HB ⊢
 clear hwyw1
 repeat ((fail_if_success (with_reducible (show wpList _ _ _ _ _ _))); go_step)
 refine Qt (by rfl) 92 _ rfl _ (by rfl) (r17 L0) (bd92) 1 rfl ?_
 (try simp only [Act.put, sI, sS, sZ])
 first | (obtain ⟨Zq, hZ, mZ⟩ := M0.out) | (obtain ⟨Zq, hZ, mZ⟩ := M0.out.toN (zN ..))
 refine ql (by rfl) 92 _ _ rfl rfl (w.heap.size) (r17 L0) rfl rfl 92 Zq mZ (by rw [zN]; kernel_rfl) (hZ.trans (zN ..).symm) (qp _ _ _) ?_
 intro yw2 hw2
 replace M0 := Lib.hid (mZ.setRow (r17 L0))
 replace HB := Lib.hid (below_setRow HB.out (w.heap.size) (r17 L0) (by omega))
 rw [← hw2] at M0 HB; clear mZ hZ hw2
 refine wpList_nil ?_
 go_wp2_with fail
 exact bodyPost_ret (v := .agg (r17 L0)) (results_cell_row (t := 92) (by rfl) _ _ (w.heap.size) _ _ _ rfl M0.out Try.underlying92 rfl (by rw [zN]; kernel_rfl)) rfl ⟨rfl, HB.out⟩
theorem ent105 : _root_.Go.Enters Try.prog 105 := ⟨_, Try.func105, by kernel_rfl, by kernel_rfl⟩
theorem ent106 : _root_.Go.Enters Try.prog 106 := ⟨_, Try.func106, by kernel_rfl, by kernel_rfl⟩
theorem ent107 : _root_.Go.Enters Try.prog 107 := ⟨_, Try.func107, by kernel_rfl, by kernel_rfl⟩
theorem ent108 : _root_.Go.Enters Try.prog 108 := ⟨_, Try.func108, by kernel_rfl, by kernel_rfl⟩
theorem ent118 : _root_.Go.Enters Try.prog 118 := ⟨_, Try.func118, by kernel_rfl, by kernel_rfl⟩
theorem ent72 : _root_.Go.Enters Try.prog 72 := ⟨_, Try.func72, by kernel_rfl, by kernel_rfl⟩
theorem qcc (gf : Nat) (lb : Array Value) (len : Nat) (h1 : 1 ≤ len) (hlen : len ≤ 1000000) (vals : Nat → Int) (prot : Nat → Prop) (eg : ∀ (args : Array Value) (w : World), (callFunc gf args).run Try.prog w = .ok (.enter gf args) w) (w : World)
 (hseq : SeqZ Try.prog gf lb (fun k => #[.int .u32 (vals k)]) len prot w) (hprot : ∀ j, prot j → j < w.heap.size) :
 Calls Try.prog 107 #[.func (.func gf) #[] lb] w fun e w' => (∃ B cap, e = .returned (.slice (some ⟨B, 0, none⟩) len cap) ∧ Figs w' B len vals) ∧ Below w.heap.size w w' := by
 have hap := apseq_any gf lb len hlen vals prot eg w hseq hprot
 have Hap := Lib.hid hap; clear hap
 clear hseq
 go_enter Try.func107, Try.ntmps107
 repeat ((fail_if_success (with_reducible (show wpList _ _ _ _ _ _))); go_step)
 (refine wpList_step (fun K hK => ?_); go_simp; (try go_bits); refine hK _ _ ?_; clear hK K)
 refine wpList_nil ?_
 have HB := Lib.hid (Below.refl w.heap.size w)
 repeat ((fail_if_success (with_reducible (show wpList _ _ _ _ _ _))); go_step)
 (refine wpList_step (fun K hK => ?_); go_simp; (try go_bits); refine hK _ _ ?_; clear hK K)
 refine qm (by rfl) rfl rfl (by rfl) ent118 (by rfl) (Hap.out) 4 rfl ?_
 rintro e uw1 ⟨⟨rv, rfl, hown⟩, hb⟩
 replace HB := Lib.hid (qh HB.out hb)
 refine ⟨_, rfl, ?_⟩
 clear hb
 (try simp only [Act.put, sI, sS, sZ])
 (refine wpList_step (fun K hK => ?_); go_simp; (try go_bits); refine hK _ _ ?_; clear hK K)
 refine wpList_nil ?_
 obtain ⟨j, rfl⟩ : ∃ j, len = j + 1 := ⟨len - 1, by omega⟩
 obtain ⟨hl, hr⟩ := hown
 rcases hr with ⟨_, h0⟩ | ⟨g, cap, cur, rfl, _, hg, hn, _, hcs, htk⟩
 · omega
 · have hfig : Figs uw1 g (j + 1) vals := ⟨(Array.getElem?_eq_some_iff.1 hg).1, fun i hi => by
    have hm : Has uw1 g cur 91 := hg
    rw [hm.cellAt]
    have h2 : (cur.toList.take ((j + 1) * 1))[i]? = some (.int .u32 (vals i)) := by rw [htk]; simp [qc8, hi]
    rw [List.getElem?_take_of_lt (by omega)] at h2
    simpa using h2⟩
   go_wp2_with fail
   go_ret
   exact ⟨⟨g, cap, rfl, hfig⟩, HB.out⟩
theorem cmp_any (a b : Int) (ha : 0 ≤ a) (ha2 : a < 65536) (hb : 0 ≤ b) (hb2 : b < 65536) (w : World) : Calls Try.prog 108 #[.int .u32 a, .int .u32 b] w fun e w' => e = .returned (.int .i64 (a - b)) ∧ Below w.heap.size w w' := by
 go_enter Try.func108, Try.ntmps108
 go_wp2
 go_ret
 exact ⟨rfl, Below.refl _ _⟩
def CmpZ (N : Nat) (A B : Nat → Int) (z : Int) : Prop := (∃ i, i < N ∧ (∀ j, j < i → A j = B j) ∧ A i ≠ B i ∧ z = A i - B i) ∨ ((∀ j, j < N → A j = B j) ∧ z = 0)
theorem cmpf_any (b1 b2 N c1 c2 : Nat) (A B : Nat → Int) (hN : N ≤ 1000) (hA : ∀ j, 0 ≤ A j ∧ A j < 65536) (hB2 : ∀ j, 0 ≤ B j ∧ B j < 65536) (w : World) (f1 : Figs w b1 N A) (f2 : Figs w b2 N B) :
 Calls Try.prog 106 #[.slice (some ⟨b1, 0, none⟩) N c1, .slice (some ⟨b2, 0, none⟩) N c2, .func (.func 108) #[] #[]] w fun e w' => (∃ z, CmpZ N A B z ∧ e = .returned (.int .i64 z)) ∧ Below w.heap.size w w' := by
 have HA := Lib.hid hA; clear hA
 have HB2 := Lib.hid hB2; clear hB2
 have F1 := Lib.hid f1; clear f1
 have F2 := Lib.hid f2; clear f2
 go_enter Try.func106, Try.ntmps106
 repeat ((fail_if_success (with_reducible (show wpList _ _ _ _ _ _))); go_step)
 (refine wpList_step (fun K hK => ?_); go_simp; (try go_bits); refine hK _ _ ?_; clear hK K)
 refine wpList_nil ?_
 have HB := Lib.hid (Below.refl w.heap.size w)
 repeat ((fail_if_success (with_reducible (show wpList _ _ _ _ _ _))); go_step)
 iterate 3 (refine wpList_step (fun K hK => ?_); go_simp; (try go_bits); refine hK _ _ ?_; clear hK K)
 refine wpList_nil ?_
 repeat ((fail_if_success (with_reducible (show wpList _ _ _ _ _ _))); go_step)
 go_loopw [13] (fun i wr => ∃ k : Nat, k ≤ N ∧ i = .int .i64 (k : Int) ∧ RowKit.Hid (∀ j, j < k → A j = B j) ∧ Figs wr b1 N A ∧ Figs wr b2 N B ∧ Below w.heap.size w wr) (fun i _ => (N - (intOf i).toNat))
 case atStart => exact ⟨0, Nat.zero_le _, rfl, Lib.hid (fun j hj => by omega), F1.out, F2.out, HB.out⟩
 case round =>
  clear HB F1 F2
  obtain ⟨k, hk, rfl, Heq, f1, f2, hB⟩ := hrel
  have F1 := Lib.hid f1; clear f1
  have F2 := Lib.hid f2; clear f2
  have HB := Lib.hid hB; clear hB
  rcases Nat.lt_or_ge k N with hlt | hge
  · have kq : (k : Int) < (N : Int) := by omega
    have hc1 := F1.out.2 k hlt
    have hc2 := F2.out.2 k hlt
    have a1 := (HA.out k).1
    have a2 := (HA.out k).2
    have a3 := (HB2.out k).1
    have a4 := (HB2.out k).2
    obtain ⟨x, hx⟩ : ∃ x, x = A k := ⟨_, rfl⟩
    obtain ⟨y, hy⟩ : ∃ y, y = B k := ⟨_, rfl⟩
    rw [← hx] at hc1 a1 a2
    rw [← hy] at hc2 a3 a4
    have Hx := Lib.hid hx; clear hx
    have Hy := Lib.hid hy; clear hy
    have hcmp := fun w => cmp_any x y a1 a2 a3 a4 w
    have Hcmp := Lib.hid hcmp; clear hcmp
    repeat ((fail_if_success (with_reducible (show wpList _ _ _ _ _ _))); go_step)
    (refine wpList_step (fun K hK => ?_); go_simp; (try go_bits); refine hK _ _ ?_; clear hK K)
    refine wpList_nil ?_
    repeat ((fail_if_success (with_reducible (show wpList _ _ _ _ _ _))); go_step)
    iterate 5 (refine wpList_step (fun K hK => ?_); go_simp; (try go_bits); refine hK _ _ ?_; clear hK K)
    refine wpList_nil ?_
    repeat ((fail_if_success (with_reducible (show wpList _ _ _ _ _ _))); go_step)
    iterate 4 (refine wpList_step (fun K hK => ?_); go_simp; (try go_bits); refine hK _ _ ?_; clear hK K)
    refine wpList_nil ?_
    repeat ((fail_if_success (with_reducible (show wpList _ _ _ _ _ _))); go_step)
    iterate 5 (refine wpList_step (fun K hK => ?_); go_simp; (try go_bits); refine hK _ _ ?_; clear hK K)
    refine wpList_nil ?_
    repeat ((fail_if_success (with_reducible (show wpList _ _ _ _ _ _))); go_step)
    clear hc1 hc2
    iterate 3 (refine wpList_step (fun K hK => ?_); go_simp; (try go_bits); refine hK _ _ ?_; clear hK K)
    refine qm (by rfl) rfl rfl (by rfl) ent108 (by rfl) (Hcmp.out _) 29 rfl ?_
    rintro e uw101 ⟨rfl, hb⟩
    replace F1 := Lib.hid (F1.out.call hb)
    replace F2 := Lib.hid (F2.out.call hb)
    replace HB := Lib.hid (qh HB.out hb)
    refine ⟨_, rfl, ?_⟩
    clear hb
    (try simp only [Act.put, sI, sS, sZ])
    (refine wpList_step (fun K hK => ?_); go_simp; (try go_bits); refine hK _ _ ?_; clear hK K)
    refine wpList_nil ?_
    repeat ((fail_if_success (with_reducible (show wpList _ _ _ _ _ _))); go_step)
    by_cases hxy : x = y
    · subst hxy
      have Hnext : RowKit.Hid (∀ j, j < k + 1 → A j = B j) := by
       refine Lib.hid (fun j hj => ?_)
       by_cases e : j = k
       · rw [e, ← Hx.out, ← Hy.out]
       · exact Heq.out j (by omega)
      have hne : (x - x != 0) = false := by simp
      iterate 2 (refine wpList_step (fun K hK => ?_); go_simp; (try go_bits); refine hK _ _ ?_; clear hK K)
      refine wpList_nil ?_
      repeat ((fail_if_success (with_reducible (show wpList _ _ _ _ _ _))); go_step)
      iterate 2 (refine wpList_step (fun K hK => ?_); go_simp; (try go_bits); refine hK _ _ ?_; clear hK K)
      refine wpList_nil ?_
      go_roundw
      case measure => simp [intOf]; omega
      case rel => (repeat apply Exists.intro); exact ⟨⟨k + 1, by omega, by go_num, Hnext, F1.out, F2.out, HB.out⟩, rfl⟩
    · have hne : (x - y != 0) = true := by simp; omega
      iterate 2 (refine wpList_step (fun K hK => ?_); go_simp; (try go_bits); refine hK _ _ ?_; clear hK K)
      refine wpList_nil ?_
      repeat ((fail_if_success (with_reducible (show wpList _ _ _ _ _ _))); go_step)
      iterate 2 (refine wpList_step (fun K hK => ?_); go_simp; (try go_bits); refine hK _ _ ?_; clear hK K)
      refine wpList_nil ?_
      go_wp2_with fail
      go_ret
      exact ⟨⟨x - y, .inl ⟨k, hlt, Heq.out, by rw [← Hx.out, ← Hy.out]; exact hxy, by rw [← Hx.out, ← Hy.out]⟩, rfl⟩, HB.out⟩
  · have hkN : k = N := by omega
    subst hkN
    clear hk hge
    repeat ((fail_if_success (with_reducible (show wpList _ _ _ _ _ _))); go_step)
    (refine wpList_step (fun K hK => ?_); go_simp; (try go_bits); refine hK _ _ ?_; clear hK K)
    refine wpList_nil ?_
    repeat ((fail_if_success (with_reducible (show wpList _ _ _ _ _ _))); go_step)
    iterate 5 (refine wpList_step (fun K hK => ?_); go_simp; (try go_bits); refine hK _ _ ?_; clear hK K)
    refine wpList_nil ?_
    repeat ((fail_if_success (with_reducible (show wpList _ _ _ _ _ _))); go_step)
    (refine wpList_step (fun K hK => ?_); go_simp; (try go_bits); refine hK _ _ ?_; clear hK K)
    refine wpList_nil ?_
    go_wp2_with fail
    go_ret
    exact ⟨⟨0, .inr ⟨Heq.out, rfl⟩, rfl⟩, HB.out⟩
end
section
open Go.RowKit Go.Lib
theorem Qp (B n i : Nat) : dg B n i = ((n / B ^ i % B : Nat) : Int) := rfl
def qc1 (m n k : Nat) : Nat → Int := fun j => if j < k then dg 65536 m j else dg 65536 n j
theorem qcp (m n k : Nat) : qc1 m n k k = dg 65536 n k := by unfold qc1; rw [if_neg (by omega)]
theorem mixd_upd (m n k : Nat) (x : Int) (h : x = dg 65536 m k) : upd (qc1 m n k) k x = qc1 m n (k + 1) := by
 funext j
 unfold upd qc1
 by_cases e : j = k
 · rw [if_pos e, if_pos (by omega), h, e]
 · rw [if_neg e]
   by_cases e2 : j < k
   · rw [if_pos e2, if_pos (by omega)]
   · rw [if_neg e2, if_neg (by omega)]
theorem mixd_0 (m n : Nat) : row .u32 17 (qc1 m n 0) = r17 n := Qb _ _ _ _ (fun j hj => by unfold qc1; rw [if_neg (by omega)])
theorem mixd_17 (m n : Nat) : row .u32 17 (qc1 m n 17) = r17 m := Qb _ _ _ _ (fun j hj => by unfold qc1; rw [if_pos hj])
theorem dbl_step (m n k c v x : Nat) (h : m / 65536 ^ k = 2 * (n / 65536 ^ k) + c) (hc : c < 2) (hx : n / 65536 ^ k % 65536 = x) (hv : v = 2 * x + c) :
 m / 65536 ^ k % 65536 = v % 65536 ∧ m / 65536 ^ (k + 1) = 2 * (n / 65536 ^ (k + 1)) + v / 65536 ∧ v / 65536 < 2 := by
 rw [Nat.pow_succ, ← Nat.div_div_eq_div_mul, ← Nat.div_div_eq_div_mul]
 omega
theorem sub_rest (d n l k c x y : Nat) (h : n / 65536 ^ k = d / 65536 ^ k + l / 65536 ^ k + c) (hc : c < 2) (hx : n / 65536 ^ k % 65536 = x) (hy : l / 65536 ^ k % 65536 = y) :
 (d / 65536 ^ k % 65536 = (x + 4294967296 - y - c) % 4294967296 % 65536) ∧ n / 65536 ^ (k + 1) = d / 65536 ^ (k + 1) + l / 65536 ^ (k + 1) + (x + 4294967296 - y - c) % 4294967296 / 2147483648 ∧ (x + 4294967296 - y - c) % 4294967296 / 2147483648 < 2 := by
 rw [Nat.pow_succ, ← Nat.div_div_eq_div_mul, ← Nat.div_div_eq_div_mul, ← Nat.div_div_eq_div_mul]
 generalize n / 65536 ^ k = N at *
 generalize d / 65536 ^ k = D at *
 generalize l / 65536 ^ k = L at *
 omega
theorem cmpz_le (n l N : Nat) (hn : n < 65536 ^ N) (hl : l < 65536 ^ N) (z : Int) (h : CmpZ N (fun k => dg 65536 n (N - 1 - k)) (fun k => dg 65536 l (N - 1 - k)) z) : decide (0 ≤ z) = decide (l ≤ n) := by
 have key : ∀ i, i ≤ N → (∀ j, j < i → n / 65536 ^ (N - 1 - j) % 65536 = l / 65536 ^ (N - 1 - j) % 65536) → n / 65536 ^ (N - i) = l / 65536 ^ (N - i) := by
  intro i
  induction i with
  | zero => intro _ _; rw [Nat.sub_zero, Nat.div_eq_of_lt hn, Nat.div_eq_of_lt hl]
  | succ i ih =>
   intro hi hj
   have h1 := ih (by omega) (fun j hj' => hj j (by omega))
   have h2 := hj i (by omega)
   rw [show N - 1 - i = N - (i + 1) by omega] at h2
   rw [show N - i = N - (i + 1) + 1 by omega, Nat.pow_succ, ← Nat.div_div_eq_div_mul, ← Nat.div_div_eq_div_mul] at h1
   omega
 have inj : ∀ k, dg 65536 n k = dg 65536 l k → n / 65536 ^ k % 65536 = l / 65536 ^ k % 65536 := fun k h => by unfold dg at h; omega
 rcases h with ⟨i, hi, he, hne, hz⟩ | ⟨he, hz⟩
 · have hk := key i (by omega) (fun j hj => inj _ (he j hj))
   have hne2 : n / 65536 ^ (N - 1 - i) % 65536 ≠ l / 65536 ^ (N - 1 - i) % 65536 := fun e => hne (by show dg _ _ _ = dg _ _ _; unfold dg; rw [e])
   have hz2 : z = ((n / 65536 ^ (N - 1 - i) % 65536 : Nat) : Int) - ((l / 65536 ^ (N - 1 - i) % 65536 : Nat) : Int) := hz
   rw [show N - i = N - 1 - i + 1 by omega, Nat.pow_succ, ← Nat.div_div_eq_div_mul, ← Nat.div_div_eq_div_mul] at hk
   generalize hp : 65536 ^ (N - 1 - i) = p at *
   have hp0 : 0 < p := by rw [← hp]; exact Nat.pow_pos (by decide)
   by_cases h0 : l ≤ n
   · have h3 : l / p ≤ n / p := Nat.div_le_div_right h0
     rw [decide_eq_true h0, decide_eq_true (by omega)]
   · have h3 : n / p ≤ l / p := Nat.div_le_div_right (by omega)
     rw [decide_eq_false h0, decide_eq_false (by omega)]
 · have hk := key N (Nat.le_refl _) (fun j hj => inj _ (he j hj))
   rw [Nat.sub_self, Nat.pow_zero, Nat.div_one, Nat.div_one] at hk
   rw [hz, hk, decide_eq_true (Nat.le_refl _)]; rfl
theorem dg65 (n j : Nat) : 0 ≤ dg 65536 n j ∧ dg 65536 n j < 65536 := by unfold dg; omega
theorem But.set {B : Nat} {A W : World} (h : But B A W) (a : Addr) (v : Value) (ha : a.block = B) : But B A (W.setCell a v) := by
 have h2 := (Below.refl 0 W).setCell (p := a) (Nat.zero_le _) v
 exact ⟨h2.os.trans h.os, h2.tape.trans h.tape, h2.output.trans h.output, Nat.le_trans h.size h2.size, fun k hk hn => (heap_setCell_other W a k v (by omega)).trans (h.block k hk hn)⟩
theorem L0_17 : L0 < 65536 ^ 17 := by decide +kernel
theorem qcd (R n : Nat) (hn : n < 65536 ^ 17) (w : World) (hR : Has w R (r17 n) 93) :
 Calls Try.prog 72 #[.pointer (some ⟨R, 0, none⟩)] w fun e w' => e = .returned (.bool (decide (L0 ≤ n))) ∧ Below w.heap.size w w' := by
 have hfr := Has.figs hR
 have MR := Lib.hid hR
 have HF := Lib.hid hfr
 have Hn := Lib.hid hn
 clear hR hfr hn
 go_enter Try.func72, Try.ntmps72
 repeat ((fail_if_success (with_reducible (show wpList _ _ _ _ _ _))); go_step)
 (refine wpList_step (fun K hK => ?_); go_simp; (try go_bits); refine hK _ _ ?_; clear hK K)
 refine wpList_nil ?_
 have HB := Lib.hid (Below.refl w.heap.size w)
 repeat ((fail_if_success (with_reducible (show wpList _ _ _ _ _ _))); go_step)
 refine qm (by rfl) rfl rfl (by rfl) ent105 (by rfl) (qdG _) 4 rfl ?_
 rintro e uw1 ⟨rfl, hb⟩
 replace HF := Lib.hid (HF.out.call hb)
 replace HB := Lib.hid (qh HB.out hb)
 refine ⟨_, rfl, ?_⟩
 clear hb
 (try simp only [Act.put, sI, sS, sZ])
 refine qJ (by rfl) 92 rfl _ al92 3 rfl ?_
 intro yw1 hw2
 have hlt2 := HF.out.lt
 have hsz := HB.out.size
 replace HF := Lib.hid (HF.out.alloc (.cells z92 92))
 have M3 := Lib.hid (HasN.new uw1 z92 92 17 (by kernel_rfl))
 replace HB := Lib.hid (HB.out.alloc hsz (.cells z92 92))
 rw [← hw2] at HF M3 HB; clear hw2
 (try simp only [Act.put, sI, sS, sZ])
 first | (obtain ⟨Zq, hZ, mZ⟩ := M3.out) | (obtain ⟨Zq, hZ, mZ⟩ := M3.out.toN (zN ..))
 refine ql (by rfl) 92 _ _ rfl rfl (uw1.heap.size) (r17 L0) rfl rfl 92 Zq mZ (by rw [zN]; kernel_rfl) (hZ.trans (zN ..).symm) (qp _ _ _) ?_
 intro yw3 hw2
 replace HF := Lib.hid (HF.out.setRow_other (uw1.heap.size) (r17 L0) (by omega))
 replace M3 := Lib.hid (mZ.setRow (r17 L0))
 replace HB := Lib.hid (below_setRow HB.out (uw1.heap.size) (r17 L0) (by omega))
 rw [← hw2] at HF M3 HB; clear mZ hZ hw2
 refine wpList_nil ?_
 repeat ((fail_if_success (with_reducible (show wpList _ _ _ _ _ _))); go_step)
 have HL := Lib.hid (Has.figs M3.out)
 refine wp_region_noPanic ?_
 refine q7 (fun _ => True) 99 11 #[ff,ff,ff,ff,ff,ff,ff,ff,ff,ff,ff] (by kernel_rfl) rfl rfl ?_
 replace HF := Lib.hid (HF.out.drew)
 replace M3 := Lib.hid (M3.out.drew)
 replace HL := Lib.hid (HL.out.drew)
 replace HB := Lib.hid (qN HB.out 1)
 obtain ⟨yw4, hwyw4⟩ : ∃ ww, ww = yw3.drew := ⟨_, rfl⟩
 rw [← hwyw4] at HF M3 HL ⊢
 have kq : Below w.heap.size w yw4 := by rw [hwyw4]; exact HB.out
 clear HB; have HB := Lib.hid kq; clear kq hwyw4
 refine qg 0 5 #[tt,ff,ff,ff,ff,ff,ff,ff,ff,ff,ff] (v := ?uv1) rfl rfl rfl (by kernel_rfl) (Or.inl ⟨by rfl, ?uy1⟩) (trivial) ?urest1
 case uy1 => (intro _ _; go_simp; try with_reducible rfl)
 (try simp only [sI, sS, sZ])
 refine qg 1 6 #[tt,tt,ff,ff,ff,ff,ff,ff,ff,ff,ff] (v := ?uv2) rfl rfl rfl (by kernel_rfl) (Or.inl ⟨by rfl, ?uy2⟩) (trivial) ?urest2
 case uy2 => (intro _ _; go_simp; try with_reducible rfl)
 (try simp only [sI, sS, sZ])
 refine qg 2 7 #[tt,tt,tt,ff,ff,ff,ff,ff,ff,ff,ff] (v := ?uv3) rfl rfl rfl (by kernel_rfl) (Or.inl ⟨by rfl, ?uy3⟩) (trivial) ?urest3
 case uy3 => (intro _ _; go_simp; try with_reducible rfl)
 (try simp only [sI, sS, sZ])
 refine qg 5 10 #[tt,tt,tt,ff,ff,tt,ff,ff,ff,ff,ff] (v := ?uv4) rfl rfl rfl (by kernel_rfl) (Or.inl ⟨by rfl, ?uy4⟩) (trivial) ?urest4
 case uy4 => (intro _ _; go_simp; try with_reducible rfl)
 (try simp only [sI, sS, sZ])
 refine qk (i := 3) (by kernel_rfl) ?_
 refine qE 3 8 #[tt,tt,tt,tt,ff,tt,ff,ff,ff,ff,ff] rfl rfl rfl (by rfl) rfl rfl (by rfl) ent103 (by rfl) (qdi _ _ _ _) ?_
 rintro e uw2 ⟨⟨rfl, hbs⟩, hb⟩
 replace HF := Lib.hid (HF.out.call hb)
 replace M3 := Lib.hid (M3.out.call hb)
 replace HL := Lib.hid (HL.out.call hb)
 replace HB := Lib.hid (qh HB.out hb)
 have MS1 := Lib.hid hbs; clear hbs
 refine ⟨_, rfl, fun _ => trivial, ?_⟩
 clear hb
 (try simp only [sI, sS, sZ])
 refine qk (i := 4) (by kernel_rfl) ?_
 refine qE 4 9 #[tt,tt,tt,tt,tt,tt,ff,ff,ff,ff,ff] rfl rfl rfl (by rfl) rfl rfl (by rfl) ent107 (by rfl) (qcc 115 #[.pointer (some ⟨yw4.heap.size, 0, none⟩)] 17 (by decide) (by decide) _ _ ent115 _ (bkf_seq (yw4.heap.size) (R) 17 17 (dg 65536 n) (by decide) _ MS1.out HF.out) (fun j hj => by rcases hj with rfl | rfl; exact MS1.out.lt; exact HF.out.lt)) ?_
 rintro e uw3 ⟨⟨C1, cap1, rfl, hfg⟩, hb⟩
 replace HF := Lib.hid (HF.out.call hb)
 replace M3 := Lib.hid (M3.out.call hb)
 replace HL := Lib.hid (HL.out.call hb)
 replace MS1 := Lib.hid (MS1.out.call hb)
 replace HB := Lib.hid (qh HB.out hb)
 have F1 := Lib.hid hfg; clear hfg
 refine ⟨_, rfl, fun _ => trivial, ?_⟩
 clear hb
 (try simp only [sI, sS, sZ])
 refine qk (i := 6) (by kernel_rfl) ?_
 refine qE 6 11 #[tt,tt,tt,tt,tt,tt,tt,ff,ff,ff,ff] rfl rfl rfl (by rfl) rfl rfl (by rfl) ent103 (by rfl) (qdi _ _ _ _) ?_
 rintro e uw4 ⟨⟨rfl, hbs⟩, hb⟩
 replace HF := Lib.hid (HF.out.call hb)
 replace M3 := Lib.hid (M3.out.call hb)
 replace HL := Lib.hid (HL.out.call hb)
 replace MS1 := Lib.hid (MS1.out.call hb)
 replace F1 := Lib.hid (F1.out.call hb)
 replace HB := Lib.hid (qh HB.out hb)
 have MS2 := Lib.hid hbs; clear hbs
 refine ⟨_, rfl, fun _ => trivial, ?_⟩
 clear hb
 (try simp only [sI, sS, sZ])
 refine qk (i := 7) (by kernel_rfl) ?_
 refine qE 7 12 #[tt,tt,tt,tt,tt,tt,tt,tt,ff,ff,ff] rfl rfl rfl (by rfl) rfl rfl (by rfl) ent107 (by rfl) (qcc 115 #[.pointer (some ⟨uw3.heap.size, 0, none⟩)] 17 (by decide) (by decide) _ _ ent115 _ (bkf_seq (uw3.heap.size) (uw1.heap.size) 17 17 (dg 65536 L0) (by decide) _ MS2.out HL.out) (fun j hj => by rcases hj with rfl | rfl; exact MS2.out.lt; exact HL.out.lt)) ?_
 rintro e uw5 ⟨⟨C2, cap2, rfl, hfg⟩, hb⟩
 replace HF := Lib.hid (HF.out.call hb)
 replace M3 := Lib.hid (M3.out.call hb)
 replace HL := Lib.hid (HL.out.call hb)
 replace MS1 := Lib.hid (MS1.out.call hb)
 replace F1 := Lib.hid (F1.out.call hb)
 replace MS2 := Lib.hid (MS2.out.call hb)
 replace HB := Lib.hid (qh HB.out hb)
 have F2 := Lib.hid hfg; clear hfg
 refine ⟨_, rfl, fun _ => trivial, ?_⟩
 clear hb
 (try simp only [sI, sS, sZ])
 refine qk (i := 8) (by kernel_rfl) ?_
 refine qE 8 13 #[tt,tt,tt,tt,tt,tt,tt,tt,tt,ff,ff] rfl rfl rfl (by rfl) rfl rfl (by rfl) ent106 (by rfl) (cmpf_any C1 C2 17 cap1 cap2 _ _ (by decide) (fun j => dg65 _ _) (fun j => dg65 _ _) _ F1.out F2.out) ?_
 rintro e uw6 ⟨⟨z, hz, rfl⟩, hb⟩
 replace HF := Lib.hid (HF.out.call hb)
 replace M3 := Lib.hid (M3.out.call hb)
 replace HL := Lib.hid (HL.out.call hb)
 replace MS1 := Lib.hid (MS1.out.call hb)
 replace F1 := Lib.hid (F1.out.call hb)
 replace MS2 := Lib.hid (MS2.out.call hb)
 replace F2 := Lib.hid (F2.out.call hb)
 replace HB := Lib.hid (qh HB.out hb)
 have Hz := Lib.hid hz; clear hz
 refine ⟨_, rfl, fun _ => trivial, ?_⟩
 clear hb
 (try simp only [sI, sS, sZ])
 refine qg 9 14 #[tt,tt,tt,tt,tt,tt,tt,tt,tt,tt,ff] (v := ?uv5) rfl rfl rfl (by kernel_rfl) (Or.inl ⟨by rfl, ?uy5⟩) (trivial) ?urest5
 case uy5 => (intro _ _; go_simp; try with_reducible rfl)
 (try simp only [sI, sS, sZ])
 refine qg 10 2 #[tt,tt,tt,tt,tt,tt,tt,tt,tt,tt,tt] (v := ?uv6) rfl rfl rfl (by kernel_rfl) (Or.inl ⟨by rfl, ?uy6⟩) (trivial) ?urest6
 case uy6 => (intro _ _; go_simp; try with_reducible rfl)
 (try simp only [sI, sS, sZ])
 refine qu (by kernel_rfl) (NoPanic.normal ?_)
 go_wp2_with fail
 go_ret
 have hfin := cmpz_le n L0 17 Hn.out L0_17 z Hz.out
 exact ⟨by rw [← hfin]; rfl, HB.out⟩
end
section
open Go.RowKit Go.Lib
theorem ent117 : _root_.Go.Enters Try.prog 117 := ⟨_, Try.func117, by kernel_rfl, by kernel_rfl⟩
theorem ent104 : _root_.Go.Enters Try.prog 104 := ⟨_, Try.func104, by kernel_rfl, by kernel_rfl⟩
theorem wu32 (n : Int) (h0 : 0 ≤ n) (h1 : n < 2 ^ 32) : IntKind.u32.wrap n = n := by rw [IntKind.wrap_u32]; omega
theorem or_bit (x c : Nat) (hx : x < 65536) (hc : c < 2) : bits .or .u32 ((x : Int) * 2) (c : Int) = ((2 * x + c : Nat) : Int) := by
 rw [bits_join .u32 32 (by decide) wu32 1 _ _ (by omega) (by omega) (by omega) (by omega) (by omega) (by omega)]
 omega
theorem and_16 (v : Nat) (hv : v < 4294967296) : bits .and .u32 (v : Int) 65535 = ((v % 65536 : Nat) : Int) := by
 have h := bits_mask .u32 32 (by decide) wu32 16 (by decide) (v : Int) (by omega) (by omega)
 rw [show ((2 : Int) ^ 16 - 1) = 65535 by decide] at h
 rw [h]; omega
theorem sz_91 (w : World) : (sizeOf 91).run Try.prog w = .ok 1 w := by kernel_rfl
theorem sub_wrap (x y c v : Nat) (hx : x < 65536) (hy : y < 65536) (hc : c < 2) (hv : v = (x + 4294967296 - y - c) % 4294967296) : ((x : Int) - (y : Int) - (c : Int)) % 4294967296 = (v : Int) := by omega
theorem take_any (R n d : Nat) (hd : n = d + L0) (w : World) (hR : Has w R (r17 n) 93) :
 Calls Try.prog 117 #[.pointer (some ⟨R, 0, none⟩)] w fun e w' => e = .returned (.tuple #[]) ∧ Has w' R (r17 d) 93 ∧ But R w w' := by
 have H0 := Lib.hid (show n / 65536 ^ 0 = d / 65536 ^ 0 + L0 / 65536 ^ 0 + 0 by rw [Nat.pow_zero, Nat.div_one, Nat.div_one, Nat.div_one]; omega)
 rw [← mixd_0 d n] at hR
 have MR := Lib.hid hR
 have HB := Lib.hid (But.refl R w)
 clear hR hd
 go_enter Try.func117, Try.ntmps117
 repeat ((fail_if_success (with_reducible (show wpList _ _ _ _ _ _))); go_step)
 (refine wpList_step (fun K hK => ?_); go_simp; (try go_bits); refine hK _ _ ?_; clear hK K)
 refine wpList_nil ?_
 repeat ((fail_if_success (with_reducible (show wpList _ _ _ _ _ _))); go_step)
 refine qm (by rfl) rfl rfl (by rfl) ent105 (by rfl) (qdG _) 6 rfl ?_
 rintro e uw1 ⟨rfl, hb⟩
 replace MR := Lib.hid (MR.out.call hb)
 replace HB := Lib.hid (HB.out.call hb)
 refine ⟨_, rfl, ?_⟩
 clear hb
 (try simp only [Act.put, sI, sS, sZ])
 (refine wpList_step (fun K hK => ?_); go_simp; (try go_bits); refine hK _ _ ?_; clear hK K)
 refine wpList_nil ?_
 repeat ((fail_if_success (with_reducible (show wpList _ _ _ _ _ _))); go_step)
 go_loopw [7, 2] (fun i c wr => ∃ k cc : Nat, k ≤ 17 ∧ cc < 2 ∧ i = .int .i64 (k : Int) ∧ c = .int .u32 (cc : Int) ∧ RowKit.Hid (n / 65536 ^ k = d / 65536 ^ k + L0 / 65536 ^ k + cc) ∧ Has wr R (row .u32 17 (qc1 d n k)) 93 ∧ But R w wr) (fun i _ _ => (17 - intOf i).toNat)
 case atStart => exact ⟨0, 0, by omega, by omega, rfl, rfl, H0, MR.out, HB.out⟩
 case round =>
  clear MR HB H0
  obtain ⟨k, cc, hk, hcc, rfl, rfl, H0, mR, hB⟩ := hrel
  have MR := Lib.hid mR; clear mR
  have HB := Lib.hid hB; clear hB
  rcases Nat.lt_or_ge k 17 with hlt | hge
  · have kq : (k : Int) < 17 := by omega
    obtain ⟨x, hx⟩ : ∃ x, n / 65536 ^ k % 65536 = x := ⟨_, rfl⟩
    obtain ⟨y, hy⟩ : ∃ y, L0 / 65536 ^ k % 65536 = y := ⟨_, rfl⟩
    have lx : x < 65536 := by omega
    have ly : y < 65536 := by omega
    have hc1 : wr.cell? ⟨R, k, none⟩ = some (.int .u32 (x : Int)) := by rw [MR.out.cell k hlt, qcp, Qp, hx]
    have hfz := MR.out.frozen k
    have hix : ∀ w, (Instr.index 92 (.agg (r17 L0)) (.int .i64 (k : Int))).run Try.prog w = .ok (.int .u32 (y : Int)) w := fun w => by
     rw [show r17 L0 = row .u32 17 (dg 65536 L0) from rfl, ze w 92 91 17 .u32 Try.underlying92 Try.underlying91 sz_91 _ k hlt, Qp, hy]
    obtain ⟨v, hv⟩ : ∃ v, v = (x + 4294967296 - y - cc) % 4294967296 := ⟨_, rfl⟩
    have hsub := sub_wrap x y cc v lx ly hcc hv
    have lv : v < 4294967296 := by omega
    obtain ⟨r, hr⟩ : ∃ r, r = v % 65536 := ⟨_, rfl⟩
    obtain ⟨c2, hc2⟩ : ∃ c, c = v / 2147483648 := ⟨_, rfl⟩
    have hand : bits .and .u32 (v : Int) 65535 = (r : Int) := by rw [and_16 v lv, hr]
    have hshr : (v : Int) / 2147483648 = (c2 : Int) := by omega
    obtain ⟨s1, s2, s3⟩ := sub_rest d n L0 k cc x y H0.out hcc hx hy
    rw [← hv, ← hr] at s1
    rw [← hv, ← hc2] at s2
    rw [← hv, ← hc2] at s3
    have hup : (r : Int) = dg 65536 d k := by rw [Qp, s1]
    clear hr hc2
    have S1 := Lib.hid s1; clear s1
    have S2 := Lib.hid s2; clear s2
    have S3 := Lib.hid s3; clear s3
    have Hv := Lib.hid hv; clear hv
    have Hx := Lib.hid hx; clear hx
    have Hy := Lib.hid hy; clear hy
    have Hup := Lib.hid hup; clear hup
    repeat ((fail_if_success (with_reducible (show wpList _ _ _ _ _ _))); go_step)
    (refine wpList_step (fun K hK => ?_); go_simp; (try go_bits); refine hK _ _ ?_; clear hK K)
    refine wpList_nil ?_
    repeat ((fail_if_success (with_reducible (show wpList _ _ _ _ _ _))); go_step)
    iterate 4 (refine wpList_step (fun K hK => ?_); go_simp; (try go_bits); refine hK _ _ ?_; clear hK K)
    refine wpList_nil ?_
    clear hix
    repeat ((fail_if_success (with_reducible (show wpList _ _ _ _ _ _))); go_step)
    iterate 10 (refine wpList_step (fun K hK => ?_); go_simp; (try go_bits); refine hK _ _ ?_; clear hK K)
    refine wpList_nil ?_
    clear hsub hc1
    repeat ((fail_if_success (with_reducible (show wpList _ _ _ _ _ _))); go_step)
    have hc1 : wr.cell? ⟨R, k, none⟩ = some (.int .u32 (x : Int)) := by rw [MR.out.cell k hlt, qcp, Qp, Hx.out]
    iterate 9 (refine wpList_step (fun K hK => ?_); go_simp; (try go_bits); refine hK _ _ ?_; clear hK K)
    clear hc1 hfz hand
    have kq := MR.out.set (k) ((r : Int)); rw [mixd_upd d n k _ Hup.out] at kq; clear MR; have MR := Lib.hid kq; clear kq
    replace HB := Lib.hid (But.set HB.out ⟨R, k, none⟩ (.int .u32 ((r : Int))) rfl)
    obtain ⟨yw101, hwyw101⟩ : ∃ ww, ww = wr.setCell ⟨R, k, none⟩ (.int .u32 ((r : Int))) := ⟨_, rfl⟩
    rw [← hwyw101] at MR HB ⊢
    clear hwyw101
    (refine wpList_step (fun K hK => ?_); go_simp; (try go_bits); refine hK _ _ ?_; clear hK K)
    refine wpList_nil ?_
    clear hshr
    repeat ((fail_if_success (with_reducible (show wpList _ _ _ _ _ _))); go_step)
    iterate 2 (refine wpList_step (fun K hK => ?_); go_simp; (try go_bits); refine hK _ _ ?_; clear hK K)
    refine wpList_nil ?_
    go_roundw
    case measure => simp [intOf]; omega
    case rel => (repeat apply Exists.intro); exact ⟨⟨k + 1, c2, by omega, S3.out, by go_num, rfl, S2, MR.out, HB.out⟩, rfl⟩
  · have hk17 : k = 17 := by omega
    subst hk17
    clear hk hge
    have mR := MR.out
    rw [mixd_17] at mR
    repeat ((fail_if_success (with_reducible (show wpList _ _ _ _ _ _))); go_step)
    (refine wpList_step (fun K hK => ?_); go_simp; (try go_bits); refine hK _ _ ?_; clear hK K)
    refine wpList_nil ?_
    go_wp2_with fail
    go_end0
    exact ⟨rfl, mR, HB.out⟩
theorem bit_any (R n b : Nat) (hn : n < L0) (hb : b < 2) (w : World) (hR : Has w R (r17 n) 93) :
 Calls Try.prog 104 #[.pointer (some ⟨R, 0, none⟩), .int .u32 (b : Int)] w fun e w' => e = .returned (.tuple #[]) ∧ Has w' R (r17 ((2 * n + b) % L0)) 93 ∧ But R w w' := by
 obtain ⟨m, hm⟩ : ∃ m, m = 2 * n + b := ⟨_, rfl⟩
 have hl := L0_17
 have hlv : L0 = 7237005577332262213973186563042994240857116359379907606001950938285454250989 := rfl
 have hp17 : (65536 : Nat) ^ 17 = 7588550360256754183279148073529370729071901715047420004889892225542594864082845696 := by decide +kernel
 have hm17 : m < 65536 ^ 17 := by rw [hp17]; rw [hlv] at hn; omega
 have hm2 : m < L0 + L0 := by omega
 rw [← hm]
 have H0 := Lib.hid (show m / 65536 ^ 0 = 2 * (n / 65536 ^ 0) + b by rw [Nat.pow_zero, Nat.div_one, Nat.div_one]; exact hm)
 rw [← mixd_0 m n] at hR
 have MR := Lib.hid hR
 have HB := Lib.hid (But.refl R w)
 clear hR hl hlv hp17 hm hn
 have Hm17 := Lib.hid hm17; clear hm17
 have Hm2 := Lib.hid hm2; clear hm2
 go_enter Try.func104, Try.ntmps104
 repeat ((fail_if_success (with_reducible (show wpList _ _ _ _ _ _))); go_step)
 (refine wpList_step (fun K hK => ?_); go_simp; (try go_bits); refine hK _ _ ?_; clear hK K)
 refine wpList_nil ?_
 repeat ((fail_if_success (with_reducible (show wpList _ _ _ _ _ _))); go_step)
 go_loopw [6, 1] (fun i c wr => ∃ k cc : Nat, k ≤ 17 ∧ cc < 2 ∧ i = .int .i64 (k : Int) ∧ c = .int .u32 (cc : Int) ∧ RowKit.Hid (m / 65536 ^ k = 2 * (n / 65536 ^ k) + cc) ∧ Has wr R (row .u32 17 (qc1 m n k)) 93 ∧ But R w wr) (fun i _ _ => (17 - intOf i).toNat)
 case atStart => exact ⟨0, b, by omega, hb, rfl, rfl, H0, MR.out, HB.out⟩
 case round =>
  clear MR HB H0
  obtain ⟨k, cc, hk, hcc, rfl, rfl, H0, mR, hB⟩ := hrel
  have MR := Lib.hid mR; clear mR
  have HB := Lib.hid hB; clear hB
  rcases Nat.lt_or_ge k 17 with hlt | hge
  · have kq : (k : Int) < 17 := by omega
    obtain ⟨x, hx⟩ : ∃ x, n / 65536 ^ k % 65536 = x := ⟨_, rfl⟩
    have lx : x < 65536 := by omega
    have hc1 : wr.cell? ⟨R, k, none⟩ = some (.int .u32 (x : Int)) := by rw [MR.out.cell k hlt, qcp, Qp, hx]
    have hfz := MR.out.frozen k
    obtain ⟨v, hv⟩ : ∃ v, v = 2 * x + cc := ⟨_, rfl⟩
    have hor : bits .or .u32 ((x : Int) * 2) (cc : Int) = (v : Int) := by rw [or_bit x cc lx hcc, hv]
    have lv : v < 4294967296 := by omega
    obtain ⟨r, hr⟩ : ∃ r, r = v % 65536 := ⟨_, rfl⟩
    obtain ⟨c2, hc2⟩ : ∃ c, c = v / 65536 := ⟨_, rfl⟩
    have hand : bits .and .u32 (v : Int) 65535 = (r : Int) := by rw [and_16 v lv, hr]
    have hshr : (v : Int) / 65536 = (c2 : Int) := by omega
    obtain ⟨s1, s2, s3⟩ := dbl_step m n k cc v x H0.out hcc hx hv
    rw [← hr] at s1
    rw [← hc2] at s2
    rw [← hc2] at s3
    have hup : (r : Int) = dg 65536 m k := by rw [Qp, s1]
    clear hr hc2
    have S1 := Lib.hid s1; clear s1
    have S2 := Lib.hid s2; clear s2
    have S3 := Lib.hid s3; clear s3
    have Hv := Lib.hid hv; clear hv
    have Hx := Lib.hid hx; clear hx
    have Hup := Lib.hid hup; clear hup
    repeat ((fail_if_success (with_reducible (show wpList _ _ _ _ _ _))); go_step)
    (refine wpList_step (fun K hK => ?_); go_simp; (try go_bits); refine hK _ _ ?_; clear hK K)
    refine wpList_nil ?_
    repeat ((fail_if_success (with_reducible (show wpList _ _ _ _ _ _))); go_step)
    iterate 2 (refine wpList_step (fun K hK => ?_); go_simp; (try go_bits); refine hK _ _ ?_; clear hK K)
    refine wpList_nil ?_
    repeat ((fail_if_success (with_reducible (show wpList _ _ _ _ _ _))); go_step)
    iterate 9 (refine wpList_step (fun K hK => ?_); go_simp; (try go_bits); refine hK _ _ ?_; clear hK K)
    refine wpList_nil ?_
    clear hor hc1
    repeat ((fail_if_success (with_reducible (show wpList _ _ _ _ _ _))); go_step)
    have hc1 : wr.cell? ⟨R, k, none⟩ = some (.int .u32 (x : Int)) := by rw [MR.out.cell k hlt, qcp, Qp, Hx.out]
    iterate 9 (refine wpList_step (fun K hK => ?_); go_simp; (try go_bits); refine hK _ _ ?_; clear hK K)
    clear hc1 hfz hand
    have kq := MR.out.set (k) ((r : Int)); rw [mixd_upd m n k _ Hup.out] at kq; clear MR; have MR := Lib.hid kq; clear kq
    replace HB := Lib.hid (But.set HB.out ⟨R, k, none⟩ (.int .u32 ((r : Int))) rfl)
    obtain ⟨yw101, hwyw101⟩ : ∃ ww, ww = wr.setCell ⟨R, k, none⟩ (.int .u32 ((r : Int))) := ⟨_, rfl⟩
    rw [← hwyw101] at MR HB ⊢
    clear hwyw101
    (refine wpList_step (fun K hK => ?_); go_simp; (try go_bits); refine hK _ _ ?_; clear hK K)
    refine wpList_nil ?_
    clear hshr
    repeat ((fail_if_success (with_reducible (show wpList _ _ _ _ _ _))); go_step)
    iterate 2 (refine wpList_step (fun K hK => ?_); go_simp; (try go_bits); refine hK _ _ ?_; clear hK K)
    refine wpList_nil ?_
    go_roundw
    case measure => simp [intOf]; omega
    case rel => (repeat apply Exists.intro); exact ⟨⟨k + 1, c2, by omega, S3.out, by go_num, rfl, S2, MR.out, HB.out⟩, rfl⟩
  · have hk17 : k = 17 := by omega
    subst hk17
    clear hk hge
    have mR := MR.out
    rw [mixd_17] at mR
    replace MR := Lib.hid mR
    clear mR
    have hal := fun w h => qcd R m Hm17.out w h
    repeat ((fail_if_success (with_reducible (show wpList _ _ _ _ _ _))); go_step)
    (refine wpList_step (fun K hK => ?_); go_simp; (try go_bits); refine hK _ _ ?_; clear hK K)
    refine wpList_nil ?_
    repeat ((fail_if_success (with_reducible (show wpList _ _ _ _ _ _))); go_step)
    by_cases hle : L0 ≤ m
    · rw [decide_eq_true hle] at hal
      obtain ⟨d, hd⟩ : ∃ d, m = d + L0 := ⟨m - L0, by omega⟩
      have hfin : m % L0 = d := by
       have := Hm2.out
       rw [hd, Nat.add_mod_right, Nat.mod_eq_of_lt (by omega)]
      have htk := fun w h => take_any R m d hd w h
      clear hle hd
      have Hal := Lib.hid hal; clear hal
      have Htk := Lib.hid htk; clear htk
      have Hfin := Lib.hid hfin; clear hfin
      (refine wpList_step (fun K hK => ?_); go_simp; (try go_bits); refine hK _ _ ?_; clear hK K)
      refine qm (by rfl) rfl rfl (by rfl) ent72 (by rfl) (Hal.out _ MR.out) 27 rfl ?_
      rintro e uw101 ⟨rfl, hb⟩
      replace MR := Lib.hid (MR.out.call hb)
      replace HB := Lib.hid (HB.out.call hb)
      refine ⟨_, rfl, ?_⟩
      clear hb
      (try simp only [Act.put, sI, sS, sZ])
      refine wpList_nil ?_
      repeat ((fail_if_success (with_reducible (show wpList _ _ _ _ _ _))); go_step)
      (refine wpList_step (fun K hK => ?_); go_simp; (try go_bits); refine hK _ _ ?_; clear hK K)
      refine qm (by rfl) rfl rfl (by rfl) ent117 (by rfl) (Htk.out _ MR.out) 29 rfl ?_
      rintro e uw102 ⟨rfl, hmU, hb⟩
      replace MR := Lib.hid hmU; clear hmU
      replace HB := Lib.hid (But.trans HB.out hb)
      clear hb
      refine ⟨_, rfl, ?_⟩
      (try simp only [Act.put, sI, sS, sZ])
      refine wpList_nil ?_
      go_wp2_with fail
      go_end0
      exact ⟨rfl, by rw [Hfin.out]; exact MR.out, HB.out⟩
    · rw [decide_eq_false hle] at hal
      have hfin : m % L0 = m := Nat.mod_eq_of_lt (by omega)
      clear hle
      have Hal := Lib.hid hal; clear hal
      have Hfin := Lib.hid hfin; clear hfin
      (refine wpList_step (fun K hK => ?_); go_simp; (try go_bits); refine hK _ _ ?_; clear hK K)
      refine qm (by rfl) rfl rfl (by rfl) ent72 (by rfl) (Hal.out _ MR.out) 27 rfl ?_
      rintro e uw101 ⟨rfl, hb⟩
      replace MR := Lib.hid (MR.out.call hb)
      replace HB := Lib.hid (HB.out.call hb)
      refine ⟨_, rfl, ?_⟩
      clear hb
      (try simp only [Act.put, sI, sS, sZ])
      refine wpList_nil ?_
      go_wp2_with fail
      go_end0
      exact ⟨rfl, by rw [Hfin.out]; exact MR.out, HB.out⟩
end
end Go.Proofs.Ytjiagjonlcadiaa
namespace Go
section
open Go.RowKit
variable {P : Program} {ops : Array Oper} {Q : Exit → Act → World → Prop} {S : World → Prop} {a : Act} {w : World}
theorem run_loadAt_c (w : World) (b j : Nat) (ty : TypeId) (v : Value) (d : TypeDesc) (hc : w.cell? ⟨b, j, none⟩ = some v) (hu : P.underlying ty = some d) (hd : d.isRow = false) : (Instr.loadAt ty (.pointer (some ⟨b, j, none⟩))).run P w = .ok v w := by
 have hag : (isAgg ty).run P w = .ok false w := by
  cases d <;> first | (simp [isAgg, run_underlying hu]; done) | (simp [TypeDesc.isRow] at hd)
 simp [Instr.loadAt, Instr.sureAddr, loadVar, hag, hc]
theorem qT {o : Oper} (hw : Region.wanted o (yielded ops a.tmps) = true) (ty : TypeId) (x : Operand) (ho : o.op = .load ty x) (b j : Nat) (hx : a.eval x = .pointer (some ⟨b, j, none⟩)) (v : Value) (d : TypeDesc)
 (hS : ∀ w, S w → w.cell? ⟨b, j, none⟩ = some v) (hu : P.underlying ty = some d) (hd : d.isRow = false) : YieldsIf P ops S o v a := by
 refine Or.inl ⟨hw, fun w hSw => ?_⟩
 unfold execOp
 simp only [ho, hx, Sem.run_bind, run_loadAt_c w b j ty v d (hS w hSw) hu hd, Result.andThen_ok]
 rfl
theorem qdn (w : World) (b j : Nat) (ty : TypeId) (v : Value) (hc : (w.cell? ⟨b, j, none⟩).isSome = true) (hf : w.frozen? ⟨b, j, none⟩ = false) (hs : (P.info? ty).map (·.size) = some 1) (hv : v.oneCell' = true) (hcv : v.cells = #[v]) :
 (storeVar ty ⟨b, j, none⟩ v).run P w = .ok () (w.setCell ⟨b, j, none⟩ v) := by
 have h2 := run_storeCells_cells (P := P) b j [v] 0 w (fun k hk => by
  obtain rfl : k = 0 := by simpa using hk
  exact hc) (fun k hk => by
  obtain rfl : k = 0 := by simpa using hk
  exact hf) (by simpa using hv)
 cases hi : P.info? ty with
 | none => rw [hi] at hs; cases hs
 | some i =>
  rw [hi] at hs
  have hs : i.size = 1 := Option.some.inj hs
  simp only [Nat.add_zero] at h2
  have h3 : (storeCells ⟨b, j, none⟩ [v]).run P w = .ok () (w.setCell ⟨b, j, none⟩ v) := h2
  simp [storeVar, sizeOf, typeInfo, hi, hcv, hs, h3]
theorem z9 {md : Region.Mode} {f n : Nat} {listed : Array Bool} (i : Nat) (l' : Array Bool) {oi : Oper} (hi : ops[i]? = some oi) (hd : oi.dst = none) (hl : listed.setIfInBounds i true = l') (hw : Region.wanted oi (yielded ops a.tmps) = true) (ty : TypeId) (x y : Operand) (ho : oi.op = .store ty x y)
 (b j : Nat) (v : Value) (hx : a.eval x = .pointer (some ⟨b, j, none⟩)) (hy : a.eval y = v) (hc : (w.cell? ⟨b, j, none⟩).isSome = true) (hf : w.frozen? ⟨b, j, none⟩ = false) (hs : (P.info? ty).map (·.size) = some 1) (hv : v.oneCell' = true) (hcv : v.cells = #[v])
 (h : (i ≠ f → S (w.setCell ⟨b, j, none⟩ v)) ∧ Qq P md ops Q f S n l' a (w.setCell ⟨b, j, none⟩ v)) : Zu P md ops Q f S n listed a w i := by
 refine ZO hi hw ?_
 unfold Oper.wp execOp
 simp only [ho, hx, hy, Instr.storeAt, Instr.sureAddr, Sem.run_bind, Sem.run_pure, Result.andThen_ok, qdn w b j ty v hc hf hs hv hcv]
 exact ⟨h.1, by rw [qar hd, hl]; exact h.2⟩
end
end Go
namespace Go.Proofs.Ytjiagjonlcadiaa
section
open Go.RowKit Go.Lib
def Byts (w : World) (a : Option Addr) (len n : Nat) : Prop := len = 0 ∨ ∃ b o, a = some ⟨b, o, none⟩ ∧ b < w.heap.size ∧ ∀ i, i < len → w.cell? ⟨b, o + i, none⟩ = some (.int .u8 (dg 256 n i))
theorem Byts.call {w w' : World} {a : Option Addr} {len n : Nat} (h : Byts w a len n) (hb : Below w.heap.size w w') : Byts w' a len n := by
 rcases h with h | ⟨b, o, h1, h2, h3⟩
 · exact .inl h
 · exact .inr ⟨b, o, h1, Nat.lt_of_lt_of_le h2 hb.size, fun i hi => (hb.cell (p := ⟨b, o + i, none⟩) h2).trans (h3 i hi)⟩
theorem Has.byts {w : World} {b n : Nat} {t : TypeId} (h : Has w b (k32 n) t) : Byts w (some ⟨b, 0, none⟩) 32 n :=
 .inr ⟨b, 0, rfl, h.lt, fun i hi => by rw [Nat.zero_add]; exact h.cell i hi⟩
def zq (n k : Nat) : Nat → Int := fun j => (if 2 * j < k then dg 256 n (2 * j) else 0) + (if 2 * j + 1 < k then 256 * dg 256 n (2 * j + 1) else 0)
theorem figsf_even (n j : Nat) : zq n (2 * j) j = 0 := by unfold zq; rw [if_neg (by omega), if_neg (by omega)]; rfl
theorem figsf_odd (n j : Nat) : zq n (2 * j + 1) j = dg 256 n (2 * j) := by unfold zq; rw [if_pos (by omega), if_neg (by omega)]; omega
theorem qc9 (n j : Nat) (x : Int) (hx : x = dg 256 n (2 * j)) : upd (zq n (2 * j)) j x = zq n (2 * j + 1) := by
 funext i
 unfold upd zq
 by_cases e : i = j
 · subst e; rw [if_pos rfl, if_pos (by omega), if_neg (by omega), hx]; omega
 · rw [if_neg e]
   congr 1
   · by_cases h : 2 * i < 2 * j
     · rw [if_pos h, if_pos (by omega)]
     · rw [if_neg h, if_neg (by omega)]
   · by_cases h : 2 * i + 1 < 2 * j
     · rw [if_pos h, if_pos (by omega)]
     · rw [if_neg h, if_neg (by omega)]
theorem qdu (n j : Nat) (x : Int) (hx : x = dg 256 n (2 * j) + 256 * dg 256 n (2 * j + 1)) : upd (zq n (2 * j + 1)) j x = zq n (2 * j + 1 + 1) := by
 funext i
 unfold upd zq
 by_cases e : i = j
 · subst e; rw [if_pos rfl, if_pos (by omega), if_pos (by omega), hx]
 · rw [if_neg e]
   congr 1
   · by_cases h : 2 * i < 2 * j + 1
     · rw [if_pos h, if_pos (by omega)]
     · rw [if_neg h, if_neg (by omega)]
   · by_cases h : 2 * i + 1 < 2 * j + 1
     · rw [if_pos h, if_pos (by omega)]
     · rw [if_neg h, if_neg (by omega)]
theorem dg_two (n j : Nat) : dg 65536 n j = dg 256 n (2 * j) + 256 * dg 256 n (2 * j + 1) := by
 unfold dg
 rw [show (65536 : Nat) ^ j = 256 ^ (2 * j) by rw [Nat.pow_mul], show (256 : Nat) ^ (2 * j + 1) = 256 ^ (2 * j) * 256 from Nat.pow_succ _ _, ← Nat.div_div_eq_div_mul]
 omega
theorem figsf_all (n len : Nat) (hn : n < 256 ^ len) : row .u32 ((len + 1) / 2) (zq n len) = row .u32 ((len + 1) / 2) (dg 65536 n) := by
 refine Qb _ _ _ _ fun j hj => ?_
 rw [dg_two]
 unfold zq
 rw [if_pos (by omega)]
 by_cases h : 2 * j + 1 < len
 · rw [if_pos h]
 · rw [if_neg h]
   have e : len = 2 * j + 1 := by omega
   have : dg 256 n (2 * j + 1) = 0 := by unfold dg; rw [← e, Nat.div_eq_of_lt hn]; rfl
   rw [this]; rfl
theorem figsf_0 (n K : Nat) : row .u32 K (zq n 0) = row .u32 K (fun _ => 0) := Qb _ _ _ _ fun j _ => by unfold zq; rw [if_neg (by omega), if_neg (by omega)]; rfl
theorem mkK (w : World) (K : Nat) (hK : K ≤ 1000) : (Instr.makeSlice 86 (.int .i64 (K : Int)) (.int .i64 (K : Int))).run Try.prog w = .ok (.slice (some ⟨w.heap.size, 0, none⟩) K K) (w.alloc (.cells (row .u32 K fun _ => 0) 91)) := by
 obtain ⟨i0, hi, hz0, hz1, hz2⟩ := info_parts info91
 have h := run_makeSlice (P := Try.prog) w 86 91 i0 _ Try.underlying86 hi hz0 .i64 .i64 (K : Int) (K : Int) (by omega) (by omega) (by rw [hz1]; omega) (by rw [hz2]; omega) (by omega)
 rw [hz1] at h
 simp only [Int.toNat_natCast, Nat.mul_one] at h
 have e : madeCells (Value.int .u32 0).cells K = row .u32 K fun _ => 0 := by
  apply Array.ext_getElem?
  intro j
  by_cases hj : j < K
  · rw [QJ _ _ _ _ hj]; simp [madeCells, Value.cells, hj, Nat.mod_one]
  · rw [Zg _ _ _ _ hj]; simp [madeCells]; omega
 rw [e] at h
 exact h
theorem or_low (c : Nat) (hc : c < 256) : bits .or .u32 0 (c : Int) = (c : Int) := by
 rw [bits_join .u32 32 (by decide) wu32 8 _ _ (by omega) (by omega) (by omega) (by omega) (by omega) (by omega)]; omega
theorem or_high (x c : Nat) (hx : x < 256) (hc : c < 256) : bits .or .u32 (x : Int) ((c * 256 : Nat) : Int) = ((x + 256 * c : Nat) : Int) := by
 have h1 : bits .or .u32 (x : Int) ((c * 256 : Nat) : Int) = bits .or .u32 ((c * 256 : Nat) : Int) (x : Int) := by
  rw [(bits_nat .u32 32 (by decide) wu32 x (c * 256) (by omega) (by omega)).2, (bits_nat .u32 32 (by decide) wu32 (c * 256) x (by omega) (by omega)).2, Nat.or_comm]
 rw [h1, bits_join .u32 32 (by decide) wu32 8 _ _ (by omega) (by omega) (by omega) (by omega) (by omega) (by omega)]
 omega
theorem qaz (a : Option Addr) (len cap n : Nat) (hlen : len ≤ 1000) (hn : n < 256 ^ len) (w : World) (hb : Byts w a len n) :
 Calls Try.prog 70 #[.slice a len cap] w fun e w' => (∃ F, w.heap.size ≤ F ∧ e = .returned (.slice (some ⟨F, 0, none⟩) ((len + 1) / 2) ((len + 1) / 2)) ∧ Has w' F (row .u32 ((len + 1) / 2) (dg 65536 n)) 91) ∧ Below w.heap.size w w' := by
 have hfin := figsf_all n len hn
 obtain ⟨K, hKe⟩ : ∃ K, K = (len + 1) / 2 := ⟨_, rfl⟩
 rw [← hKe] at hfin ⊢
 have hK1 : ((len : Int) + 1) / 2 = (K : Int) := by omega
 have hKl : K ≤ 1000 := by omega
 have hK2 : len ≤ 2 * K := by omega
 clear hn hKe
 have MB := Lib.hid hb
 clear hb
 have Hfin := Lib.hid hfin; clear hfin
 go_enter Try.func70, Try.ntmps70
 repeat ((fail_if_success (with_reducible (show wpList _ _ _ _ _ _))); go_step)
 (refine wpList_step (fun K hK => ?_); go_simp; (try go_bits); refine hK _ _ ?_; clear hK K)
 refine wpList_nil ?_
 have HB := Lib.hid (Below.refl w.heap.size w)
 repeat ((fail_if_success (with_reducible (show wpList _ _ _ _ _ _))); go_step)
 iterate 4 (refine wpList_step (fun K hK => ?_); go_simp; (try go_bits); refine hK _ _ ?_; clear hK K)
 rw [hK1]
 refine zJ (by rfl) 86 _ _ rfl _ _ rfl rfl _ _ (mkK _ K hKl) 10 rfl ?_
 have hb := Qc w (.cells (row .u32 K fun _ => 0) 91)
 have nwMF := Has.new w (row .u32 K fun _ => 0) 91
 obtain ⟨yw1, hwyw1⟩ : ∃ ww, ww = w.alloc (.cells (row .u32 K fun _ => 0) 91) := ⟨_, rfl⟩
 rw [← hwyw1] at hb nwMF ⊢
 clear hwyw1
 replace HB := Lib.hid (qh HB.out hb)
 clear hb
 have MF := Lib.hid nwMF; clear nwMF
 (try simp only [Act.put, sI, sS, sZ])
 (refine wpList_step (fun K hK => ?_); go_simp; (try go_bits); refine hK _ _ ?_; clear hK K)
 refine wpList_nil ?_
 clear hK1
 rw [← figsf_0 n K] at MF
 repeat ((fail_if_success (with_reducible (show wpList _ _ _ _ _ _))); go_step)
 iterate 3 (refine wpList_step (fun K hK => ?_); go_simp; (try go_bits); refine hK _ _ ?_; clear hK K)
 refine wpList_nil ?_
 repeat ((fail_if_success (with_reducible (show wpList _ _ _ _ _ _))); go_step)
 go_loopw [13] (fun i wr => ∃ k : Nat, k ≤ len ∧ i = .int .i64 (k : Int) ∧ Has wr w.heap.size (row .u32 K (zq n k)) 91 ∧ Below w.heap.size w wr) (fun i _ => (len - (intOf i).toNat))
 case atStart => exact ⟨0, Nat.zero_le _, rfl, MF.out, HB.out⟩
 case round =>
  clear MF HB
  obtain ⟨k, hk, rfl, mF, hB⟩ := hrel
  rcases Nat.lt_or_ge k len with hlt | hge
  · rcases MB.out with h0 | ⟨b, o, rfl, hbl, hcb⟩
    · omega
    have kq : (k : Int) < (len : Int) := by omega
    have hc1 := (hB.cell (p := ⟨b, o + k, none⟩) hbl).trans (hcb k hlt)
    clear hcb
    obtain ⟨c, hc⟩ : ∃ c, n / 256 ^ k % 256 = c := ⟨_, rfl⟩
    have lc : c < 256 := by omega
    rw [Qp, hc] at hc1
    have MF := Lib.hid mF; clear mF
    have HB := Lib.hid hB; clear hB
    have Hc := Lib.hid hc; clear hc
    repeat ((fail_if_success (with_reducible (show wpList _ _ _ _ _ _))); go_step)
    (refine wpList_step (fun K hK => ?_); go_simp; (try go_bits); refine hK _ _ ?_; clear hK K)
    refine wpList_nil ?_
    repeat ((fail_if_success (with_reducible (show wpList _ _ _ _ _ _))); go_step)
    iterate 5 (refine wpList_step (fun K hK => ?_); go_simp; (try go_bits); refine hK _ _ ?_; clear hK K)
    refine wpList_nil ?_
    clear hc1
    repeat ((fail_if_success (with_reducible (show wpList _ _ _ _ _ _))); go_step)
    obtain ⟨j, hj⟩ : ∃ j, j = k / 2 := ⟨_, rfl⟩
    have hjK : j < K := by omega
    have hq1 : (k : Int).tdiv 2 = (j : Int) := by rw [Int.tdiv_eq_ediv_of_nonneg (by omega)]; omega
    have hq2 : (k : Int) / 2 = (j : Int) := by omega
    rcases Nat.mod_two_eq_zero_or_one k with he | he
    · have hm1 : (k : Int).tmod 2 = 0 := by rw [Int.tmod_eq_emod_of_nonneg (by omega)]; omega
      have hm2 : (k : Int) % 2 = 0 := by omega
      have hk2 : k = 2 * j := by omega
      have hol := or_low c lc
      have hjb : (j : Int) < (K : Int) := by omega
      have hwj : IntKind.i64.wrap (j : Int) = (j : Int) := by rw [IntKind.wrap_i64]; omega
      have hw0 : IntKind.i64.wrap 0 = 0 := by decide
      have hwc : IntKind.u32.wrap (c : Int) = (c : Int) := by rw [IntKind.wrap_u32]; omega
      have hcs : (wr.cell? ⟨w.heap.size, j, none⟩).isSome = true := by rw [MF.out.cell j hjK]; rfl
      clear hj
      subst hk2
      have hup : (c : Int) = dg 256 n (2 * j) := by rw [Qp, Hc.out]
      have He := Lib.hid he; clear he
      have Hup := Lib.hid hup; clear hup
      refine wp_region_noPanic ?_
      refine q7 (fun w' => Has w' (w.heap.size) (row .u32 K (zq n (2 * j))) 91) 13 14 #[ff,ff,ff,ff,ff,ff,ff,ff,ff,ff,ff,ff,ff,ff] (by kernel_rfl) rfl rfl ?_
      replace MF := Lib.hid (MF.out.drew)
      replace HB := Lib.hid (qN HB.out 1)
      obtain ⟨yw101, hwyw101⟩ : ∃ ww, ww = wr.drew := ⟨_, rfl⟩
      rw [← hwyw101] at MF ⊢
      have kq : Below w.heap.size w yw101 := by rw [hwyw101]; exact HB.out
      clear HB; have HB := Lib.hid kq; clear kq hwyw101
      refine qg 0 18 #[tt,ff,ff,ff,ff,ff,ff,ff,ff,ff,ff,ff,ff,ff] (v := ?uv1) rfl rfl rfl (by kernel_rfl) (Or.inl ⟨by rfl, ?uy1⟩) (MF.out) ?urest1
      case uy1 => (intro _ _; go_simp; try with_reducible rfl)
      (try simp only [sI, sS, sZ])
      refine qg 1 19 #[tt,tt,ff,ff,ff,ff,ff,ff,ff,ff,ff,ff,ff,ff] (v := ?uv2) rfl rfl rfl (by kernel_rfl) (Or.inl ⟨by rfl, ?uy2⟩) (MF.out) ?urest2
      case uy2 => (intro _ _; go_simp; try with_reducible rfl)
      (try simp only [sI, sS, sZ])
      refine qg 2 20 #[tt,tt,tt,ff,ff,ff,ff,ff,ff,ff,ff,ff,ff,ff] (v := ?uv3) rfl rfl rfl (by kernel_rfl) (Or.inl ⟨by rfl, ?uy3⟩) (MF.out) ?urest3
      case uy3 => (intro _ _; go_simp; try with_reducible rfl)
      (try simp only [sI, sS, sZ])
      refine qg 3 21 #[tt,tt,tt,tt,ff,ff,ff,ff,ff,ff,ff,ff,ff,ff] (v := ?uv4) rfl rfl rfl (by kernel_rfl) (Or.inl ⟨by rfl, ?uy4⟩) (MF.out) ?urest4
      case uy4 => (intro _ _; go_simp; try with_reducible rfl)
      (try simp only [sI, sS, sZ])
      refine qg 4 22 #[tt,tt,tt,tt,tt,ff,ff,ff,ff,ff,ff,ff,ff,ff] rfl rfl rfl (by kernel_rfl) (qT (by rfl) 91 _ rfl (w.heap.size) (j) rfl (.int .u32 0) _ (fun _ h => (by rw [Has.cell h j hjK, figsf_even])) Try.underlying91 rfl) (MF.out) ?_
      (try simp only [sI, sS, sZ])
      refine qg 5 23 #[tt,tt,tt,tt,tt,tt,ff,ff,ff,ff,ff,ff,ff,ff] (v := ?uv5) rfl rfl rfl (by kernel_rfl) (Or.inl ⟨by rfl, ?uy5⟩) (MF.out) ?urest5
      case uy5 => (intro _ _; go_simp; try with_reducible rfl)
      (try simp only [sI, sS, sZ])
      refine qg 6 24 #[tt,tt,tt,tt,tt,tt,tt,ff,ff,ff,ff,ff,ff,ff] (v := ?uv6) rfl rfl rfl (by kernel_rfl) (Or.inl ⟨by rfl, ?uy6⟩) (MF.out) ?urest6
      case uy6 => (intro _ _; go_simp; try with_reducible rfl)
      (try simp only [sI, sS, sZ])
      refine qg 7 25 #[tt,tt,tt,tt,tt,tt,tt,tt,ff,ff,ff,ff,ff,ff] (v := ?uv7) rfl rfl rfl (by kernel_rfl) (Or.inl ⟨by rfl, ?uy7⟩) (MF.out) ?urest7
      case uy7 => (intro _ _; go_simp; try with_reducible rfl)
      (try simp only [sI, sS, sZ])
      refine qg 8 26 #[tt,tt,tt,tt,tt,tt,tt,tt,tt,ff,ff,ff,ff,ff] (v := ?uv8) rfl rfl rfl (by kernel_rfl) (Or.inl ⟨by rfl, ?uy8⟩) (MF.out) ?urest8
      case uy8 => (intro _ _; go_simp; try with_reducible rfl)
      (try simp only [sI, sS, sZ])
      refine qg 9 27 #[tt,tt,tt,tt,tt,tt,tt,tt,tt,tt,ff,ff,ff,ff] (v := ?uv9) rfl rfl rfl (by kernel_rfl) (Or.inl ⟨by rfl, ?uy9⟩) (MF.out) ?urest9
      case uy9 => (intro _ _; go_simp; try with_reducible rfl)
      (try simp only [sI, sS, sZ])
      refine qg 10 28 #[tt,tt,tt,tt,tt,tt,tt,tt,tt,tt,tt,ff,ff,ff] (v := ?uv10) rfl rfl rfl (by kernel_rfl) (Or.inl ⟨by rfl, ?uy10⟩) (MF.out) ?urest10
      case uy10 => (intro _ _; go_simp; try with_reducible rfl)
      (try simp only [sI, sS, sZ])
      refine qg 11 29 #[tt,tt,tt,tt,tt,tt,tt,tt,tt,tt,tt,tt,ff,ff] (v := ?uv11) rfl rfl rfl (by kernel_rfl) (Or.inl ⟨by rfl, ?uy11⟩) (MF.out) ?urest11
      case uy11 => (intro _ _; go_simp; try with_reducible rfl)
      (try simp only [sI, sS, sZ])
      refine qg 12 30 #[tt,tt,tt,tt,tt,tt,tt,tt,tt,tt,tt,tt,tt,ff] (v := ?uv12) rfl rfl rfl (by kernel_rfl) (Or.inl ⟨by rfl, ?uy12⟩) (MF.out) ?urest12
      case uy12 => (intro _ _; go_simp; try with_reducible rfl)
      (try simp only [sI, sS, sZ])
      refine qk (i := 13) (by kernel_rfl) ?_
      refine z9 13 #[tt,tt,tt,tt,tt,tt,tt,tt,tt,tt,tt,tt,tt,tt] rfl rfl rfl (by rfl) 91 _ _ rfl (w.heap.size) (j) (.int .u32 ((c : Int))) rfl rfl (by rw [MF.out.cell j hjK]; rfl) (MF.out.frozen _) (by kernel_rfl) rfl rfl ⟨fun h => (h rfl).elim, ?_⟩
      have kq := MF.out.set (j) ((c : Int)); rw [qc9 n j _ Hup.out] at kq; clear MF; have MF := Lib.hid kq; clear kq
      replace HB := Lib.hid (HB.out.setCell (p := ⟨w.heap.size, j, none⟩) (show w.heap.size ≤ w.heap.size by omega) (.int .u32 ((c : Int))))
      obtain ⟨yw102, hwyw102⟩ : ∃ ww, ww = yw101.setCell ⟨w.heap.size, j, none⟩ (.int .u32 ((c : Int))) := ⟨_, rfl⟩
      rw [← hwyw102] at MF HB ⊢
      clear hwyw102
      (try simp only [sI, sS, sZ])
      refine qu (by kernel_rfl) (NoPanic.normal ?_)
      repeat ((fail_if_success (with_reducible (show wpList _ _ _ _ _ _))); go_step)
      iterate 2 (refine wpList_step (fun K hK => ?_); go_simp; (try go_bits); refine hK _ _ ?_; clear hK K)
      refine wpList_nil ?_
      go_roundw
      case measure => simp [intOf]; omega
      case rel => (repeat apply Exists.intro); exact ⟨⟨2 * j + 1, by omega, by go_num, MF.out, HB.out⟩, rfl⟩
    · have hm1 : (k : Int).tmod 2 = 1 := by rw [Int.tmod_eq_emod_of_nonneg (by omega)]; omega
      have hm2 : (k : Int) % 2 = 1 := by omega
      have hk2 : k = 2 * j + 1 := by omega
      obtain ⟨x, hx⟩ : ∃ x, n / 256 ^ (2 * j) % 256 = x := ⟨_, rfl⟩
      have lx : x < 256 := by omega
      obtain ⟨v, hv⟩ : ∃ v, v = x + 256 * c := ⟨_, rfl⟩
      have hol := or_high x c lx lc
      obtain ⟨c8, hc8⟩ : ∃ c8, c8 = c * 256 := ⟨_, rfl⟩
      rw [← hv, ← hc8] at hol
      have hsh : IntKind.u32.wrap ((c : Int) * 256) = (c8 : Int) := by rw [IntKind.wrap_u32]; omega
      clear hc8
      have hjb : (j : Int) < (K : Int) := by omega
      have hwj : IntKind.i64.wrap (j : Int) = (j : Int) := by rw [IntKind.wrap_i64]; omega
      have hw0 : IntKind.i64.wrap 8 = 8 := by decide
      have hwc : IntKind.u32.wrap (c : Int) = (c : Int) := by rw [IntKind.wrap_u32]; omega
      have hfx : zq n k j = (x : Int) := by rw [hk2, figsf_odd, Qp, hx]
      have hfu : upd (zq n k) j (v : Int) = zq n (k + 1) := by
       have hc := Hc.out
       rw [hk2] at hc ⊢
       refine qdu n j _ ?_
       rw [Qp, Qp, hc, hx, hv]; omega
      clear hj hk2
      have He := Lib.hid he; clear he
      have Hfx := Lib.hid hfx; clear hfx
      have Hfu := Lib.hid hfu; clear hfu
      have Hx := Lib.hid hx; clear hx
      have Hv := Lib.hid hv; clear hv
      refine wp_region_noPanic ?_
      refine q7 (fun w' => Has w' (w.heap.size) (row .u32 K (zq n k)) 91) 13 14 #[ff,ff,ff,ff,ff,ff,ff,ff,ff,ff,ff,ff,ff,ff] (by kernel_rfl) rfl rfl ?_
      replace MF := Lib.hid (MF.out.drew)
      replace HB := Lib.hid (qN HB.out 1)
      obtain ⟨yw101, hwyw101⟩ : ∃ ww, ww = wr.drew := ⟨_, rfl⟩
      rw [← hwyw101] at MF ⊢
      have kq : Below w.heap.size w yw101 := by rw [hwyw101]; exact HB.out
      clear HB; have HB := Lib.hid kq; clear kq hwyw101
      refine qg 0 18 #[tt,ff,ff,ff,ff,ff,ff,ff,ff,ff,ff,ff,ff,ff] (v := ?uv13) rfl rfl rfl (by kernel_rfl) (Or.inl ⟨by rfl, ?uy13⟩) (MF.out) ?urest13
      case uy13 => (intro _ _; go_simp; try with_reducible rfl)
      (try simp only [sI, sS, sZ])
      refine qg 1 19 #[tt,tt,ff,ff,ff,ff,ff,ff,ff,ff,ff,ff,ff,ff] (v := ?uv14) rfl rfl rfl (by kernel_rfl) (Or.inl ⟨by rfl, ?uy14⟩) (MF.out) ?urest14
      case uy14 => (intro _ _; go_simp; try with_reducible rfl)
      (try simp only [sI, sS, sZ])
      refine qg 2 20 #[tt,tt,tt,ff,ff,ff,ff,ff,ff,ff,ff,ff,ff,ff] (v := ?uv15) rfl rfl rfl (by kernel_rfl) (Or.inl ⟨by rfl, ?uy15⟩) (MF.out) ?urest15
      case uy15 => (intro _ _; go_simp; try with_reducible rfl)
      (try simp only [sI, sS, sZ])
      refine qg 3 21 #[tt,tt,tt,tt,ff,ff,ff,ff,ff,ff,ff,ff,ff,ff] (v := ?uv16) rfl rfl rfl (by kernel_rfl) (Or.inl ⟨by rfl, ?uy16⟩) (MF.out) ?urest16
      case uy16 => (intro _ _; go_simp; try with_reducible rfl)
      (try simp only [sI, sS, sZ])
      refine qg 4 22 #[tt,tt,tt,tt,tt,ff,ff,ff,ff,ff,ff,ff,ff,ff] rfl rfl rfl (by kernel_rfl) (qT (by rfl) 91 _ rfl (w.heap.size) (j) rfl (.int .u32 (x : Int)) _ (fun _ h => (by rw [Has.cell h j hjK, Hfx.out])) Try.underlying91 rfl) (MF.out) ?_
      (try simp only [sI, sS, sZ])
      refine qg 5 23 #[tt,tt,tt,tt,tt,tt,ff,ff,ff,ff,ff,ff,ff,ff] (v := ?uv17) rfl rfl rfl (by kernel_rfl) (Or.inl ⟨by rfl, ?uy17⟩) (MF.out) ?urest17
      case uy17 => (intro _ _; go_simp; try with_reducible rfl)
      (try simp only [sI, sS, sZ])
      refine qg 6 24 #[tt,tt,tt,tt,tt,tt,tt,ff,ff,ff,ff,ff,ff,ff] (v := ?uv18) rfl rfl rfl (by kernel_rfl) (Or.inl ⟨by rfl, ?uy18⟩) (MF.out) ?urest18
      case uy18 => (intro _ _; go_simp; try with_reducible rfl)
      (try simp only [sI, sS, sZ])
      refine qg 7 25 #[tt,tt,tt,tt,tt,tt,tt,tt,ff,ff,ff,ff,ff,ff] (v := ?uv19) rfl rfl rfl (by kernel_rfl) (Or.inl ⟨by rfl, ?uy19⟩) (MF.out) ?urest19
      case uy19 => (intro _ _; go_simp; try with_reducible rfl)
      (try simp only [sI, sS, sZ])
      refine qg 8 26 #[tt,tt,tt,tt,tt,tt,tt,tt,tt,ff,ff,ff,ff,ff] (v := ?uv20) rfl rfl rfl (by kernel_rfl) (Or.inl ⟨by rfl, ?uy20⟩) (MF.out) ?urest20
      case uy20 => (intro _ _; go_simp; try with_reducible rfl)
      (try simp only [sI, sS, sZ])
      refine qg 9 27 #[tt,tt,tt,tt,tt,tt,tt,tt,tt,tt,ff,ff,ff,ff] (v := ?uv21) rfl rfl rfl (by kernel_rfl) (Or.inl ⟨by rfl, ?uy21⟩) (MF.out) ?urest21
      case uy21 => (intro _ _; go_simp; try with_reducible rfl)
      (try simp only [sI, sS, sZ])
      refine qg 10 28 #[tt,tt,tt,tt,tt,tt,tt,tt,tt,tt,tt,ff,ff,ff] (v := ?uv22) rfl rfl rfl (by kernel_rfl) (Or.inl ⟨by rfl, ?uy22⟩) (MF.out) ?urest22
      case uy22 => (intro _ _; go_simp; try with_reducible rfl)
      (try simp only [sI, sS, sZ])
      refine qg 11 29 #[tt,tt,tt,tt,tt,tt,tt,tt,tt,tt,tt,tt,ff,ff] (v := ?uv23) rfl rfl rfl (by kernel_rfl) (Or.inl ⟨by rfl, ?uy23⟩) (MF.out) ?urest23
      case uy23 => (intro _ _; go_simp; try with_reducible rfl)
      (try simp only [sI, sS, sZ])
      refine qg 12 30 #[tt,tt,tt,tt,tt,tt,tt,tt,tt,tt,tt,tt,tt,ff] (v := ?uv24) rfl rfl rfl (by kernel_rfl) (Or.inl ⟨by rfl, ?uy24⟩) (MF.out) ?urest24
      case uy24 => (intro _ _; go_simp; try with_reducible rfl)
      (try simp only [sI, sS, sZ])
      refine qk (i := 13) (by kernel_rfl) ?_
      refine z9 13 #[tt,tt,tt,tt,tt,tt,tt,tt,tt,tt,tt,tt,tt,tt] rfl rfl rfl (by rfl) 91 _ _ rfl (w.heap.size) (j) (.int .u32 ((v : Int))) rfl rfl (by rw [MF.out.cell j hjK]; rfl) (MF.out.frozen _) (by kernel_rfl) rfl rfl ⟨fun h => (h rfl).elim, ?_⟩
      have kq := MF.out.set (j) ((v : Int)); rw [Hfu.out] at kq; clear MF; have MF := Lib.hid kq; clear kq
      replace HB := Lib.hid (HB.out.setCell (p := ⟨w.heap.size, j, none⟩) (show w.heap.size ≤ w.heap.size by omega) (.int .u32 ((v : Int))))
      obtain ⟨yw102, hwyw102⟩ : ∃ ww, ww = yw101.setCell ⟨w.heap.size, j, none⟩ (.int .u32 ((v : Int))) := ⟨_, rfl⟩
      rw [← hwyw102] at MF HB ⊢
      clear hwyw102
      (try simp only [sI, sS, sZ])
      refine qu (by kernel_rfl) (NoPanic.normal ?_)
      repeat ((fail_if_success (with_reducible (show wpList _ _ _ _ _ _))); go_step)
      iterate 2 (refine wpList_step (fun K hK => ?_); go_simp; (try go_bits); refine hK _ _ ?_; clear hK K)
      refine wpList_nil ?_
      go_roundw
      case measure => simp [intOf]; omega
      case rel => (repeat apply Exists.intro); exact ⟨⟨k + 1, by omega, by go_num, MF.out, HB.out⟩, rfl⟩
  · have hkl : k = len := by omega
    subst hkl
    clear hk hge
    have mF2 := mF
    rw [Hfin.out] at mF2
    have MF := Lib.hid mF; clear mF
    have HB := Lib.hid hB; clear hB
    repeat ((fail_if_success (with_reducible (show wpList _ _ _ _ _ _))); go_step)
    (refine wpList_step (fun K hK => ?_); go_simp; (try go_bits); refine hK _ _ ?_; clear hK K)
    refine wpList_nil ?_
    repeat ((fail_if_success (with_reducible (show wpList _ _ _ _ _ _))); go_step)
    iterate 2 (refine wpList_step (fun K hK => ?_); go_simp; (try go_bits); refine hK _ _ ?_; clear hK K)
    refine wpList_nil ?_
    go_wp2_with fail
    go_ret
    exact ⟨⟨_, Nat.le_refl _, rfl, mF2⟩, HB.out⟩
end
section
open Go.RowKit Go.Lib Go.Shelf
attribute [local go_sem] Oper.semAt_some
theorem al90 (w : World) : (Instr.alloc 90 true (.tuple #[])).run Try.prog w = .ok (.pointer (some ⟨w.heap.size, 0, none⟩)) (w.alloc (.cells #[.pointer none] 90)) := by go_simp
theorem bd93z : Try.prog.built 93 [] = some (r17 0) := by kernel_rfl
theorem z24k : ((#[.int .u8 0, .int .u8 0, .int .u8 0, .int .u8 0, .int .u8 0, .int .u8 0, .int .u8 0, .int .u8 0, .int .u8 0, .int .u8 0, .int .u8 0, .int .u8 0, .int .u8 0, .int .u8 0, .int .u8 0, .int .u8 0, .int .u8 0, .int .u8 0, .int .u8 0, .int .u8 0, .int .u8 0, .int .u8 0, .int .u8 0, .int .u8 0, .int .u8 0, .int .u8 0, .int .u8 0, .int .u8 0, .int .u8 0, .int .u8 0, .int .u8 0, .int .u8 0] : Array Value)) = k32 0 := by kernel_rfl
theorem top_step (N len k : Nat) (hk : k < len) : N / 65536 ^ (len - k) * 65536 + N / 65536 ^ (len - 1 - k) % 65536 = N / 65536 ^ (len - (k + 1)) := by
 rw [show len - k = len - 1 - k + 1 by omega, show len - (k + 1) = len - 1 - k by omega, Nat.pow_succ, ← Nat.div_div_eq_div_mul]
 omega
theorem bit_step (T f j b : Nat) (hj : j < 16) (hb : f / 2 ^ j % 2 = b) : 2 * (T * 2 ^ (16 - (j + 1)) + f / 2 ^ (j + 1)) + b = T * 2 ^ (16 - j) + f / 2 ^ j := by
 rw [show 16 - j = 16 - (j + 1) + 1 by omega, Nat.pow_succ 2 (16 - (j + 1)), Nat.pow_succ 2 j, ← Nat.div_div_eq_div_mul, ← Nat.mul_assoc]
 generalize T * 2 ^ (16 - (j + 1)) = P
 generalize f / 2 ^ j = q at *
 omega
theorem bit_rest (X b : Nat) : (2 * (X % L0) + b) % L0 = (2 * X + b) % L0 := by
 rw [Nat.add_mod, Nat.mul_mod, Nat.mod_mod, ← Nat.mul_mod, ← Nat.add_mod]
theorem bit_and (f j b : Nat) (hf : f < 65536) (hb : f / 2 ^ j % 2 = b) : bits .and .u32 ((f : Int) / 2 ^ j) 1 = (b : Int) := by
 have e : ((f : Int) / 2 ^ j) = ((f / 2 ^ j : Nat) : Int) := by rw [Int.natCast_ediv, Int.natCast_pow]; rfl
 have hl : f / 2 ^ j ≤ f := Nat.div_le_self _ _
 rw [e]
 generalize f / 2 ^ j = q at *
 have h := bits_mask .u32 32 (by decide) wu32 1 (by decide) (q : Int) (by omega) (by omega)
 rw [show ((2 : Int) ^ 1 - 1) = 1 by decide] at h
 rw [h, ← hb]
 omega
def qci (v k : Nat) : Nat → Int := fun j => if j < k then dg 256 v j else 0
theorem mixb_0 (v : Nat) : row .u8 32 (qci v 0) = k32 0 := Qb _ _ _ _ fun j _ => by
 unfold qci dg; rw [if_neg (by omega), Nat.zero_div]; rfl
theorem mixb_32 (v : Nat) : row .u8 32 (qci v 32) = k32 v := Qb _ _ _ _ fun j hj => by unfold qci; rw [if_pos hj]
theorem qc2 (v k : Nat) (x : Int) (h : x = dg 256 v k) : upd (qci v k) k x = qci v (k + 1) := by
 funext j
 unfold upd qci
 by_cases e : j = k
 · rw [if_pos e, if_pos (by omega), h, e]
 · rw [if_neg e]
   by_cases e2 : j < k
   · rw [if_pos e2, if_pos (by omega)]
   · rw [if_neg e2, if_neg (by omega)]
def DefAt0 (W : World) (D : Nat) : Prop := W.heap[D]? = some (.deferred (some []))
section
variable {W W' : World} {D : Nat}
theorem DefAt0.other (h : DefAt0 W D) (a : Addr) (v : Value) (hb : D ≠ a.block) : DefAt0 (W.setCell a v) D := (heap_setCell_other W a D v hb).trans h
theorem DefAt0.setRow_other (h : DefAt0 W D) (g : Nat) (c : Array Value) (hg : D ≠ g) : DefAt0 (W.setRow g c) D := (Go.setRow_other W g D c hg).trans h
end
theorem qdb (b len cap N : Nat) (hlen : len ≤ 1000) (hN : N < 65536 ^ len) (w : World) (hf : Figs w b len (dg 65536 N)) :
 Calls Try.prog 69 #[.slice (some ⟨b, 0, none⟩) len cap] w fun e w' => e = .returned (.agg (k32 (N % L0))) ∧ Below w.heap.size w w' := by
 have hb0 := hf.lt
 have MG := Lib.hid hf
 have HN := Lib.hid hN
 clear hf hN
 refine (callsIn_wide (n := 3)).1 (callsIn_of_wp_marks Try.func69 rfl trivial (wpIn_wide.2 ?_) rfl)
 simp only [Try.ntmps69, List.size_toArray, List.length_cons, List.length_nil, Nat.reduceAdd, Nat.reduceSub, Array.replicate_succ, Array.replicate_zero, List.push_toArray, List.append_toArray, List.nil_append, List.cons_append]
 repeat ((fail_if_success (with_reducible (show wpList _ _ _ _ _ _))); go_step)
 (refine wpList_step (fun K hK => ?_); go_simp; (try go_bits); refine hK _ _ ?_; clear hK K)
 refine wpList_nil ?_
 rw [z24k]
 have M2 := Lib.hid (Has.new w (k32 0) 24)
 have HB := Lib.hid (Qc w (.cells (k32 0) 24))
 replace MG := Lib.hid (MG.out.alloc (.cells (k32 0) 24))
 obtain ⟨yw1, hwyw1⟩ : ∃ ww, ww = w.alloc (.cells (k32 0) 24) := ⟨_, rfl⟩
 rw [← hwyw1] at MG M2 HB ⊢
 clear hwyw1
 repeat ((fail_if_success (with_reducible (show wpList _ _ _ _ _ _))); go_step)
 refine Qt (by rfl) 93 _ rfl _ (by rfl) (r17 0) (bd93z) 7 rfl ?_
 (try simp only [Act.put, sI, sS, sZ])
 have gR := M2.out.lt
 refine wpList_step (fun K hK => ?_)
 go_simp
 refine hK _ _ ?_
 clear hK K
 have hb := Qc yw1 (.cells (r17 0) 93)
 have nwMR := Has.new yw1 (r17 0) 93
 obtain ⟨yw2, hwyw2⟩ : ∃ ww, ww = yw1.alloc (.cells (r17 0) 93) := ⟨_, rfl⟩
 rw [← hwyw2] at hb nwMR ⊢
 clear hwyw2
 replace MG := Lib.hid (MG.out.call hb)
 replace M2 := Lib.hid (M2.out.call hb)
 replace HB := Lib.hid (qh HB.out hb)
 clear hb
 have MR := Lib.hid nwMR; clear nwMR
 (try simp only [Act.put, sI, sS, sZ])
 refine qJ (by rfl) 90 rfl _ al90 3 rfl ?_
 intro yw3 hw2
 have hlt4 := MG.out.lt
 have hlt5 := M2.out.lt
 have hlt6 := MR.out.lt
 have hsz := HB.out.size
 replace MG := Lib.hid (MG.out.alloc (.cells #[.pointer none] 90))
 replace M2 := Lib.hid (M2.out.alloc (.cells #[.pointer none] 90))
 replace MR := Lib.hid (MR.out.alloc (.cells #[.pointer none] 90))
 have MP := Lib.hid (Has.new yw2 #[.pointer none] 90)
 replace HB := Lib.hid (HB.out.alloc hsz (.cells #[.pointer none] 90))
 rw [← hw2] at MG M2 MR MP HB; clear hw2
 (try simp only [Act.put, sI, sS, sZ])
 refine zG (by rfl) 90 _ _ rfl rfl (yw2.heap.size) (.pointer (some ⟨yw1.heap.size, 0, none⟩)) rfl rfl _ _ MP.out (by kernel_rfl) rfl rfl ?_
 intro yw7 hw2
 replace MG := Lib.hid (MG.out.other ⟨yw2.heap.size, 0, none⟩ (.pointer (some ⟨yw1.heap.size, 0, none⟩)) (show _ ≠ yw2.heap.size by omega))
 replace M2 := Lib.hid (M2.out.other ⟨yw2.heap.size, 0, none⟩ (.pointer (some ⟨yw1.heap.size, 0, none⟩)) (show _ ≠ yw2.heap.size by omega))
 replace MR := Lib.hid (MR.out.other ⟨yw2.heap.size, 0, none⟩ (.pointer (some ⟨yw1.heap.size, 0, none⟩)) (show _ ≠ yw2.heap.size by omega))
 replace MP := Lib.hid (MP.out.setAt 0 (.pointer (some ⟨yw1.heap.size, 0, none⟩)))
 replace HB := Lib.hid (HB.out.setCell (p := ⟨yw2.heap.size, 0, none⟩) (show w.heap.size ≤ yw2.heap.size by omega) (.pointer (some ⟨yw1.heap.size, 0, none⟩)))
 rw [← hw2] at MG M2 MR MP HB; clear hw2
 replace MP : RowKit.Hid (Has yw7 (yw2.heap.size) #[.pointer (some ⟨yw1.heap.size, 0, none⟩)] 90) := MP
 refine wpList_nil ?_
 have gP : yw1.heap.size < yw2.heap.size := by omega
 repeat ((fail_if_success (with_reducible (show wpList _ _ _ _ _ _))); go_step)
 have MYl := MP.out.lt
 (refine wpList_step (fun K hK => ?_); go_simp; (try go_bits); refine hK _ _ ?_; clear hK K)
 refine qm (by rfl) rfl rfl (by rfl) ent103 (by rfl) (qdi _ _ _ _) 10 rfl ?_
 rintro e uw1 ⟨⟨rfl, hbs⟩, hb⟩
 replace MG := Lib.hid (MG.out.call hb)
 replace M2 := Lib.hid (M2.out.call hb)
 replace MR := Lib.hid (MR.out.call hb)
 replace MP := Lib.hid (MP.out.call hb)
 replace HB := Lib.hid (qh HB.out hb)
 have MS := Lib.hid hbs; clear hbs
 refine ⟨_, rfl, ?_⟩
 clear hb
 (try simp only [Act.put, sI, sS, sZ])
 refine wpList_nil ?_
 obtain ⟨BS, hBS⟩ : ∃ B, B = yw7.heap.size := ⟨_, rfl⟩
 rw [← hBS] at MS MYl ⊢
 clear hBS
 repeat ((fail_if_success (with_reducible (show wpList _ _ _ _ _ _))); go_step)
 have hlS := MS.out.lt
 have hlb := MG.out.lt
 have hsz := HB.out.size
 have hst := bkf_seq BS b len cap (dg 65536 N) (by omega) uw1 MS.out MG.out
 have hf : ∀ (k : Nat) (t : Array Value), ((#[11] : Array Tmp).zip #[Value.int .u32 (dg 65536 N (len - 1 - k))]).foldl (fun t (p, v) => t.setIfInBounds p v) t = t.setIfInBounds 11 (.int .u32 (dg 65536 N (len - 1 - k))) := fun k t => by simp
 refine range_z (gf := 115) (lb := #[.pointer (some ⟨BS, 0, none⟩)]) rfl ent115 hst (Below.refl _ _) (fun _ => rfl) (fun j hj => by rcases hj with rfl | rfl <;> omega)
  (fun s k V => uw1.heap.size ≤ s ∧ Has V yw1.heap.size (r17 (N / 65536 ^ (len - k) % L0)) 93 ∧ Has V yw2.heap.size #[.pointer (some ⟨yw1.heap.size, 0, none⟩)] 90 ∧ Has V w.heap.size (k32 0) 24 ∧ Below w.heap.size w V) ?h0 ?hz (fun k t => t.setIfInBounds 4 (.int .u32 (dg 65536 N (len - 1 - k)))) ?assign ?body ?done
 case h0 =>
  intro W1 hb hs
  refine ⟨hb.size, ?_, MP.out.below hb (by omega), M2.out.below hb (by omega), HB.out.trans (hb.mono hsz)⟩
  have := MR.out.below hb (by omega)
  rwa [Nat.sub_zero, Nat.div_eq_of_lt HN.out, Nat.zero_mod]
 case hz =>
  rintro s k A B ⟨h1, h2, h3, h4, h5⟩ hq
  exact ⟨h1, (hq.block _ (by omega)).trans h2, (hq.block _ (by omega)).trans h3, (hq.block _ (by omega)).trans h4, hq.below h5 hsz⟩
 case assign =>
  intro m l2 k V K hK
  simp only [hf, sI, sS, sZ] at hK ⊢
  gi_wp2
  exact hK
 case body =>
  rintro m l2 s k V hs hsV hk ⟨h1, h2, h3, h4, h5⟩
  obtain ⟨f, hfd⟩ : ∃ f, N / 65536 ^ (len - 1 - k) % 65536 = f := ⟨_, rfl⟩
  have lf : f < 65536 := by omega
  have htop := top_step N len k hk
  rw [hfd] at htop
  have hfd2 : dg 65536 N (len - 1 - k) = (f : Int) := by rw [Qp, hfd]
  obtain ⟨T, hT⟩ : ∃ T, T = N / 65536 ^ (len - k) := ⟨_, rfl⟩
  rw [← hT] at h2 htop
  have Htop := Lib.hid htop
  simp only [hf, hfd2, sI, sS, sZ]
  have KO := But.refl yw1.heap.size V
  clear hf hst MG M2 MR MP MS HB hfd hfd2 hT htop
  have MR := Lib.hid h2
  have MP := Lib.hid h3
  have M2 := Lib.hid h4
  have HB := Lib.hid h5
  replace KO := Lib.hid KO
  clear h2 h3 h4 h5
  repeat ((fail_if_success (with_reducible (show wpListIn _ _ _ _ _ _ _ _))); gi_step)
  refine Qg (by kernel_rfl) ?_
  (refine wpList_step (fun K hK => ?_); go_simp; (try go_bits); refine hK _ _ ?_; clear hK K)
  refine wpList_nil ?_
  repeat ((fail_if_success (with_reducible (show wpListIn _ _ _ _ _ _ _ _))); gi_step)
  gi_loopw [5] (fun i wr => ∃ j : Nat, j ≤ 16 ∧ i = .int .i64 ((j : Int) - 1) ∧ Has wr yw1.heap.size (r17 ((T * 2 ^ (16 - j) + f / 2 ^ j) % L0)) 93 ∧ Has wr yw2.heap.size #[.pointer (some ⟨yw1.heap.size, 0, none⟩)] 90 ∧ Has wr w.heap.size (k32 0) 24 ∧ But yw1.heap.size V wr ∧ Below w.heap.size w wr) (fun i _ => (intOf i + 1).toNat)
  case atStart =>
   refine ⟨16, Nat.le_refl _, rfl, ?_, MP.out, M2.out, KO.out, HB.out⟩
   rw [show T * 2 ^ (16 - 16) + f / 2 ^ 16 = T by rw [Nat.sub_self, Nat.pow_zero, Nat.mul_one, Nat.div_eq_of_lt (show f < 2 ^ 16 by omega), Nat.add_zero]]
   exact MR.out
  case round =>
   clear MR MP M2 HB KO
   obtain ⟨j, hj, rfl, mR, mP, m2, kO, hB⟩ := hrel
   have MR := Lib.hid mR; clear mR
   have MP := Lib.hid mP; clear mP
   have M2 := Lib.hid m2; clear m2
   have KO := Lib.hid kO; clear kO
   have HB := Lib.hid hB; clear hB
   rcases Nat.eq_zero_or_pos j with hj0 | hj0
   · subst hj0
     repeat ((fail_if_success (with_reducible (show wpListIn _ _ _ _ _ _ _ _))); gi_step)
     refine Qg (by kernel_rfl) ?_
     iterate 2 (refine wpList_step (fun K hK => ?_); go_simp; (try go_bits); refine hK _ _ ?_; clear hK K)
     refine wpList_nil ?_
     repeat ((fail_if_success (with_reducible (show wpListIn _ _ _ _ _ _ _ _))); gi_step)
     have hfin := MR.out
     rw [Nat.sub_zero, Nat.pow_zero, Nat.div_one, show (2 : Nat) ^ 16 = 65536 by decide, Htop.out] at hfin
     exact ⟨⟨h1, hfin, MP.out, M2.out, HB.out⟩, KO.out.size, fun q hq => KO.out.block q (by rcases hq with ⟨_, h⟩ | rfl | rfl <;> omega) (by rcases hq with ⟨h, _⟩ | rfl | rfl <;> omega)⟩
   · obtain ⟨i, rfl⟩ : ∃ i, j = i + 1 := ⟨j - 1, by omega⟩
     rw [show ((i + 1 : Nat) : Int) - 1 = (i : Int) by omega]
     have hi16 : i < 16 := by omega
     obtain ⟨bt, hbt⟩ : ∃ bt, f / 2 ^ i % 2 = bt := ⟨_, rfl⟩
     have lbt : bt < 2 := by omega
     have hand := bit_and f i bt lf hbt
     have hwj : IntKind.i64.wrap (i : Int) = (i : Int) := by rw [IntKind.wrap_i64]; omega
     have hstep := bit_step T f i bt hi16 hbt
     obtain ⟨X, hX⟩ : ∃ X, X = T * 2 ^ (16 - (i + 1)) + f / 2 ^ (i + 1) := ⟨_, rfl⟩
     rw [← hX] at hstep MR
     have hbr := bit_rest X bt
     rw [hstep] at hbr
     clear hX hj hj0 hbt hstep
     have Hbr := Lib.hid hbr; clear hbr
     repeat ((fail_if_success (with_reducible (show wpListIn _ _ _ _ _ _ _ _))); gi_step)
     refine Qg (by kernel_rfl) ?_
     iterate 2 (refine wpList_step (fun K hK => ?_); go_simp; (try go_bits); refine hK _ _ ?_; clear hK K)
     refine wpList_nil ?_
     repeat ((fail_if_success (with_reducible (show wpListIn _ _ _ _ _ _ _ _))); gi_step)
     refine qak ?_
     refine wpr_goS (fun w' => Has w' (yw2.heap.size) (#[.pointer (some ⟨yw1.heap.size, 0, none⟩)]) 90) 99 6 #[ff,ff,ff,ff,ff,ff] (by kernel_rfl) rfl rfl ?_
     replace MR := Lib.hid (MR.out.drew)
     replace MP := Lib.hid (MP.out.drew)
     replace M2 := Lib.hid (M2.out.drew)
     replace KO := Lib.hid (KO.out.drew)
     replace HB := Lib.hid (qN HB.out 1)
     obtain ⟨yw401, hwyw401⟩ : ∃ ww, ww = wr.drew := ⟨_, rfl⟩
     rw [← hwyw401] at MR MP M2 KO ⊢
     have kq : Below w.heap.size w yw401 := by rw [hwyw401]; exact HB.out
     clear HB; have HB := Lib.hid kq; clear kq hwyw401
     refine qg 0 16 #[tt,ff,ff,ff,ff,ff] rfl rfl rfl (by kernel_rfl) (Qf (by rfl) 90 _ rfl (yw2.heap.size) rfl (.pointer (some ⟨yw1.heap.size, 0, none⟩)) _ (fun _ h => Has.one (h)) Try.underlying90 rfl) (MP.out) ?_
     (try simp only [sI, sS, sZ])
     refine qg 1 17 #[tt,tt,ff,ff,ff,ff] (v := ?uv1) rfl rfl rfl (by kernel_rfl) (Or.inl ⟨by rfl, ?uy1⟩) (MP.out) ?urest1
     case uy1 => (intro _ _; go_simp; try with_reducible rfl)
     (try simp only [sI, sS, sZ])
     refine qg 2 18 #[tt,tt,tt,ff,ff,ff] (v := ?uv2) rfl rfl rfl (by kernel_rfl) (Or.inl ⟨by rfl, ?uy2⟩) (MP.out) ?urest2
     case uy2 => (intro _ _; go_simp; try with_reducible rfl)
     (try simp only [sI, sS, sZ])
     refine qg 3 19 #[tt,tt,tt,tt,ff,ff] (v := ?uv3) rfl rfl rfl (by kernel_rfl) (Or.inl ⟨by rfl, ?uy3⟩) (MP.out) ?urest3
     case uy3 => (intro _ _; go_simp; try with_reducible rfl)
     (try simp only [sI, sS, sZ])
     refine qg 4 20 #[tt,tt,tt,tt,tt,ff] (v := ?uv4) rfl rfl rfl (by kernel_rfl) (Or.inl ⟨by rfl, ?uy4⟩) (MP.out) ?urest4
     case uy4 => (intro _ _; go_simp; try with_reducible rfl)
     (try simp only [sI, sS, sZ])
     refine qk (i := 5) (by kernel_rfl) ?_
     refine qE 5 21 #[tt,tt,tt,tt,tt,tt] rfl rfl rfl (by rfl) rfl rfl (by rfl) ent104 (by rfl) (bit_any yw1.heap.size (X % L0) bt (Nat.mod_lt _ (by decide)) lbt _ MR.out) ?_
     rintro e uw401 ⟨rfl, hmU, hb⟩
     replace MR := Lib.hid hmU; clear hmU
     replace MP := Lib.hid (MP.out.but hb (by omega))
     replace M2 := Lib.hid (M2.out.but hb (by omega))
     replace KO := Lib.hid (But.trans KO.out hb)
     replace HB := Lib.hid (qb5 HB.out hb (by omega) HB.out.size)
     rw [Hbr.out] at MR
     clear hb
     refine ⟨_, rfl, fun _ => MP.out, ?_⟩
     (try simp only [sI, sS, sZ])
     refine qu (by kernel_rfl) (NoPanic.normal ?_)
     clear hand hwj
     repeat ((fail_if_success (with_reducible (show wpListIn _ _ _ _ _ _ _ _))); gi_step)
     refine Qg (by kernel_rfl) ?_
     iterate 3 (refine wpList_step (fun K hK => ?_); go_simp; (try go_bits); refine hK _ _ ?_; clear hK K)
     refine wpList_nil ?_
     go_roundw
     case measure => simp [intOf]
     case rel => (repeat apply Exists.intro); exact ⟨⟨i, by omega, rfl, MR.out, MP.out, M2.out, KO.out, HB.out⟩, rfl⟩
 case done =>
  rintro s V hs hsV ⟨h1, h2, h3, h4, h5⟩ hD
  rw [Nat.sub_self, Nat.pow_zero, Nat.div_one] at h2
  obtain ⟨v, hv⟩ : ∃ v, v = N % L0 := ⟨_, rfl⟩
  rw [← hv] at h2
  have Hv := Lib.hid hv
  have hD2 : DefAt0 V uw1.heap.size := hD
  clear hf hst MG M2 MR MP MS HB HN hv hD
  have m2 := h4
  rw [← mixb_0 v] at m2
  have MR := Lib.hid h2
  have MP := Lib.hid h3
  have M2 := Lib.hid m2
  have HB := Lib.hid h5
  have MD := Lib.hid hD2
  clear h2 h3 h4 h5 m2 hD2
  repeat ((fail_if_success (with_reducible (show wpList _ _ _ _ _ _))); go_step)
  (refine wpList_step (fun K hK => ?_); go_simp; (try go_bits); refine hK _ _ ?_; clear hK K)
  refine wpList_nil ?_
  repeat ((fail_if_success (with_reducible (show wpList _ _ _ _ _ _))); go_step)
  go_loopw [22] (fun i wr => ∃ k : Nat, k ≤ 32 ∧ i = .int .i64 (k : Int) ∧ Has wr yw1.heap.size (r17 v) 93 ∧ Has wr yw2.heap.size #[.pointer (some ⟨yw1.heap.size, 0, none⟩)] 90 ∧ Has wr w.heap.size (row .u8 32 (qci v k)) 24 ∧ DefAt0 wr uw1.heap.size ∧ Below w.heap.size w wr) (fun i _ => (32 - (intOf i).toNat))
  case atStart => exact ⟨0, by omega, rfl, MR.out, MP.out, M2.out, MD.out, HB.out⟩
  case round =>
   clear MR MP M2 MD HB
   obtain ⟨k, hk, rfl, mR, mP, m2, mD, hB⟩ := hrel
   have MR := Lib.hid mR; clear mR
   have MP := Lib.hid mP; clear mP
   have M2 := Lib.hid m2; clear m2
   have MD := Lib.hid mD; clear mD
   have HB := Lib.hid hB; clear hB
   rcases Nat.lt_or_ge k 32 with hlt | hge
   · have kq : (k : Int) < 32 := by omega
     obtain ⟨j, hj⟩ : ∃ j, j = k / 2 := ⟨_, rfl⟩
     have hj17 : j < 17 := by omega
     have hjb : (j : Int) < 17 := by omega
     obtain ⟨x, hx⟩ : ∃ x, v / 65536 ^ j % 65536 = x := ⟨_, rfl⟩
     have lx : x < 65536 := by omega
     have hpc := MP.out.one
     have hc1 : wr.cell? ⟨yw1.heap.size, j, none⟩ = some (.int .u32 (x : Int)) := by
      have h := MR.out
      unfold r17 at h
      rw [h.cell j hj17, Qp, hx]
     have hcw : wr.cell? ⟨w.heap.size, k, none⟩ = some (.int .u8 0) := by rw [M2.out.cell k hlt]; unfold qci; rw [if_neg (by omega)]
     have hfz := M2.out.frozen k
     have hdt := dg_two v j
     rw [Qp, hx, Qp, Qp] at hdt
     have hq1 : (k : Int).tdiv 2 = (j : Int) := by rw [Int.tdiv_eq_ediv_of_nonneg (by omega)]; omega
     have hq2 : (k : Int) / 2 = (j : Int) := by omega
     rcases Nat.mod_two_eq_zero_or_one k with he | he
     · have hm1 : (k : Int).tmod 2 = 0 := by rw [Int.tmod_eq_emod_of_nonneg (by omega)]; omega
       have hm2 : (k : Int) % 2 = 0 := by omega
       have hk2 : k = 2 * j := by omega
       obtain ⟨y, hy⟩ : ∃ y, y = x % 256 := ⟨_, rfl⟩
       have hwx : IntKind.u8.wrap (x : Int) = (y : Int) := by rw [IntKind.wrap_u8]; omega
       have hwx2 : (x : Int) % 256 = (y : Int) := by omega
       have hup : (y : Int) = dg 256 v k := by rw [Qp, hk2]; omega
       clear hj hy hdt hk2
       have Hx := Lib.hid hx; clear hx
       have Hup := Lib.hid hup; clear hup
       have He := Lib.hid he; clear he
       repeat ((fail_if_success (with_reducible (show wpList _ _ _ _ _ _))); go_step)
       (refine wpList_step (fun K hK => ?_); go_simp; (try go_bits); refine hK _ _ ?_; clear hK K)
       refine wpList_nil ?_
       repeat ((fail_if_success (with_reducible (show wpList _ _ _ _ _ _))); go_step)
       iterate 2 (refine wpList_step (fun K hK => ?_); go_simp; (try go_bits); refine hK _ _ ?_; clear hK K)
       refine wpList_nil ?_
       repeat ((fail_if_success (with_reducible (show wpList _ _ _ _ _ _))); go_step)
       iterate 14 (refine wpList_step (fun K hK => ?_); go_simp; (try go_bits); refine hK _ _ ?_; clear hK K)
       have kq := M2.out.set (k) ((y : Int)); rw [qc2 v k _ Hup.out] at kq; clear M2; have M2 := Lib.hid kq; clear kq
       have kq := MR.out.other ⟨w.heap.size, k, none⟩ (.int .u8 ((y : Int))) (by simp <;> omega); clear MR; have MR := Lib.hid kq; clear kq
       have kq := MP.out.other ⟨w.heap.size, k, none⟩ (.int .u8 ((y : Int))) (by simp <;> omega); clear MP; have MP := Lib.hid kq; clear kq
       have kq := MD.out.other ⟨w.heap.size, k, none⟩ (.int .u8 ((y : Int))) (by simp <;> omega); clear MD; have MD := Lib.hid kq; clear kq
       replace HB := Lib.hid (HB.out.setCell (p := ⟨w.heap.size, k, none⟩) (show w.heap.size ≤ w.heap.size by omega) (.int .u8 ((y : Int))))
       obtain ⟨yw601, hwyw601⟩ : ∃ ww, ww = wr.setCell ⟨w.heap.size, k, none⟩ (.int .u8 ((y : Int))) := ⟨_, rfl⟩
       rw [← hwyw601] at MR MP M2 MD HB ⊢
       clear hwyw601
       refine wpList_nil ?_
       clear hc1 hcw hfz hpc hwx hwx2 hm1 hm2 hq1 hq2
       repeat ((fail_if_success (with_reducible (show wpList _ _ _ _ _ _))); go_step)
       iterate 2 (refine wpList_step (fun K hK => ?_); go_simp; (try go_bits); refine hK _ _ ?_; clear hK K)
       refine wpList_nil ?_
       go_roundw
       case measure => simp [intOf]; omega
       case rel => (repeat apply Exists.intro); exact ⟨⟨k + 1, by omega, by go_num, MR.out, MP.out, M2.out, MD.out, HB.out⟩, rfl⟩
     · have hm1 : (k : Int).tmod 2 = 1 := by rw [Int.tmod_eq_emod_of_nonneg (by omega)]; omega
       have hm2 : (k : Int) % 2 = 1 := by omega
       have hk2 : k = 2 * j + 1 := by omega
       obtain ⟨y, hy⟩ : ∃ y, y = x / 256 := ⟨_, rfl⟩
       have hwx2 : (x : Int) / 256 = (y : Int) := by omega
       have hwx : IntKind.u8.wrap (y : Int) = (y : Int) := by rw [IntKind.wrap_u8]; omega
       have hwx3 : (y : Int) % 256 = (y : Int) := by omega
       have hup : (y : Int) = dg 256 v k := by rw [Qp, hk2]; omega
       clear hj hy hdt hk2
       have Hx := Lib.hid hx; clear hx
       have Hup := Lib.hid hup; clear hup
       have He := Lib.hid he; clear he
       repeat ((fail_if_success (with_reducible (show wpList _ _ _ _ _ _))); go_step)
       (refine wpList_step (fun K hK => ?_); go_simp; (try go_bits); refine hK _ _ ?_; clear hK K)
       refine wpList_nil ?_
       repeat ((fail_if_success (with_reducible (show wpList _ _ _ _ _ _))); go_step)
       iterate 2 (refine wpList_step (fun K hK => ?_); go_simp; (try go_bits); refine hK _ _ ?_; clear hK K)
       refine wpList_nil ?_
       repeat ((fail_if_success (with_reducible (show wpList _ _ _ _ _ _))); go_step)
       iterate 14 (refine wpList_step (fun K hK => ?_); go_simp; (try go_bits); refine hK _ _ ?_; clear hK K)
       have kq := M2.out.set (k) ((y : Int)); rw [qc2 v k _ Hup.out] at kq; clear M2; have M2 := Lib.hid kq; clear kq
       have kq := MR.out.other ⟨w.heap.size, k, none⟩ (.int .u8 ((y : Int))) (by simp <;> omega); clear MR; have MR := Lib.hid kq; clear kq
       have kq := MP.out.other ⟨w.heap.size, k, none⟩ (.int .u8 ((y : Int))) (by simp <;> omega); clear MP; have MP := Lib.hid kq; clear kq
       have kq := MD.out.other ⟨w.heap.size, k, none⟩ (.int .u8 ((y : Int))) (by simp <;> omega); clear MD; have MD := Lib.hid kq; clear kq
       replace HB := Lib.hid (HB.out.setCell (p := ⟨w.heap.size, k, none⟩) (show w.heap.size ≤ w.heap.size by omega) (.int .u8 ((y : Int))))
       obtain ⟨yw601, hwyw601⟩ : ∃ ww, ww = wr.setCell ⟨w.heap.size, k, none⟩ (.int .u8 ((y : Int))) := ⟨_, rfl⟩
       rw [← hwyw601] at MR MP M2 MD HB ⊢
       clear hwyw601
       refine wpList_nil ?_
       clear hc1 hcw hfz hpc hwx hwx2 hwx3 hm1 hm2 hq1 hq2
       repeat ((fail_if_success (with_reducible (show wpList _ _ _ _ _ _))); go_step)
       iterate 2 (refine wpList_step (fun K hK => ?_); go_simp; (try go_bits); refine hK _ _ ?_; clear hK K)
       refine wpList_nil ?_
       go_roundw
       case measure => simp [intOf]; omega
       case rel => (repeat apply Exists.intro); exact ⟨⟨k + 1, by omega, by go_num, MR.out, MP.out, M2.out, MD.out, HB.out⟩, rfl⟩
   · have hk32 : k = 32 := by omega
     subst hk32
     clear hk hge
     rw [mixb_32] at M2
     repeat ((fail_if_success (with_reducible (show wpList _ _ _ _ _ _))); go_step)
     (refine wpList_step (fun K hK => ?_); go_simp; (try go_bits); refine hK _ _ ?_; clear hK K)
     refine wpList_nil ?_
     repeat ((fail_if_success (with_reducible (show wpList _ _ _ _ _ _))); go_step)
     refine qv (by rfl) 24 _ rfl (w.heap.size) rfl 24 (k32 v) M2.out Try.underlying24 rfl (by rw [qf]; kernel_rfl) 39 rfl ?_
     (try simp only [Act.put, sI, sS, sZ])
     first | (obtain ⟨Zq, hZ, mZ⟩ := M2.out) | (obtain ⟨Zq, hZ, mZ⟩ := M2.out.toN (qf ..))
     refine ql (by rfl) 24 _ _ rfl rfl (w.heap.size) (k32 v) rfl rfl 24 Zq mZ (by rw [qf]; kernel_rfl) (hZ.trans (qf ..).symm) (qp _ _ _) ?_
     intro yw601 hw2
     replace MR := Lib.hid (MR.out.setRow_other (w.heap.size) (k32 v) (by omega))
     replace MP := Lib.hid (MP.out.setRow_other (w.heap.size) (k32 v) (by omega))
     replace MD := Lib.hid (MD.out.setRow_other (w.heap.size) (k32 v) (by omega))
     replace M2 := Lib.hid (mZ.setRow (k32 v))
     replace HB := Lib.hid (below_setRow HB.out (w.heap.size) (k32 v) (by omega))
     rw [← hw2] at MR MP MD M2 HB; clear mZ hZ hw2
     refine wpList_nil ?_
     repeat ((fail_if_success (with_reducible (show wpList _ _ _ _ _ _))); go_step)
     refine ⟨by simp, .inl ⟨_, _, rfl, run_takeDeferred MD.out, ?_⟩⟩
     have m2' : Has (World.putObj yw601 uw1.heap.size (.deferred none)) w.heap.size (k32 v) 24 := (World.putObj_heap_other (by omega)).trans M2.out
     have hBD : Below w.heap.size w (World.putObj yw601 uw1.heap.size (.deferred none)) := HB.out.trans (belowK_b (w := w) (Nat.le_refl _) _ _ _ _ hsz MD.out rfl rfl)
     exact ⟨.agg (k32 v), results_cell_row (t := 24) (by rfl) _ _ (w.heap.size) _ _ _ rfl m2' Try.underlying24 rfl (by rw [qf]; kernel_rfl), by rw [Hv.out], hBD⟩
end
section
open Go.RowKit Go.Lib
theorem ent69 : _root_.Go.Enters Try.prog 69 := ⟨_, Try.func69, by kernel_rfl, by kernel_rfl⟩
theorem ent70 : _root_.Go.Enters Try.prog 70 := ⟨_, Try.func70, by kernel_rfl, by kernel_rfl⟩
theorem dgs (n K len : Nat) (h : n < 256 ^ len) (hK : K = (len + 1) / 2) : n < 65536 ^ K := by
 subst hK
 refine Nat.lt_of_lt_of_le h ?_
 rw [show (65536 : Nat) = 256 ^ 2 by decide, ← Nat.pow_mul]
 exact Nat.pow_le_pow_right (by decide) (by omega)
theorem residue_any (a : Option Addr) (len cap n : Nat) (hlen : len ≤ 64) (hn : n < 256 ^ len) (w : World) (hb : Byts w a len n) :
 Calls Try.prog 23 #[.slice a len cap] w fun e w' => e = .returned (.tuple #[.agg (k32 (n % L0)), .bool true]) ∧ Below w.heap.size w w' := by
 have hc : (len : Int) ≤ 64 := by omega
 obtain ⟨K, hK⟩ : ∃ K, K = (len + 1) / 2 := ⟨_, rfl⟩
 have hnK := dgs n K len hn hK
 have hK1 : K ≤ 1000 := by omega
 have hfi := fun w h => qaz a len cap n (by omega) hn w h
 have hdi := fun F w h => qdb F K K n hK1 hnK w h
 simp only [← hK] at hfi
 have MB := Lib.hid hb
 clear hK hnK hn hb
 have Hfi := Lib.hid hfi; clear hfi
 have Hdi := Lib.hid hdi; clear hdi
 go_enter Try.func23, Try.ntmps23
 repeat ((fail_if_success (with_reducible (show wpList _ _ _ _ _ _))); go_step)
 iterate 2 (refine wpList_step (fun K hK => ?_); go_simp; (try go_bits); refine hK _ _ ?_; clear hK K)
 refine wpList_nil ?_
 have M2 := Lib.hid (HasN.new w  (#[.int .u8 0, .int .u8 0, .int .u8 0, .int .u8 0, .int .u8 0, .int .u8 0, .int .u8 0, .int .u8 0, .int .u8 0, .int .u8 0, .int .u8 0, .int .u8 0, .int .u8 0, .int .u8 0, .int .u8 0, .int .u8 0, .int .u8 0, .int .u8 0, .int .u8 0, .int .u8 0, .int .u8 0, .int .u8 0, .int .u8 0, .int .u8 0, .int .u8 0, .int .u8 0, .int .u8 0, .int .u8 0, .int .u8 0, .int .u8 0, .int .u8 0, .int .u8 0] : Array Value) 24 32 (by kernel_rfl))
 have HB := Lib.hid (Qc w (.cells (#[.int .u8 0, .int .u8 0, .int .u8 0, .int .u8 0, .int .u8 0, .int .u8 0, .int .u8 0, .int .u8 0, .int .u8 0, .int .u8 0, .int .u8 0, .int .u8 0, .int .u8 0, .int .u8 0, .int .u8 0, .int .u8 0, .int .u8 0, .int .u8 0, .int .u8 0, .int .u8 0, .int .u8 0, .int .u8 0, .int .u8 0, .int .u8 0, .int .u8 0, .int .u8 0, .int .u8 0, .int .u8 0, .int .u8 0, .int .u8 0, .int .u8 0, .int .u8 0] : Array Value) 24))
 obtain ⟨yw1, hwyw1⟩ : ∃ ww, ww = (w.alloc (.cells (#[.int .u8 0, .int .u8 0, .int .u8 0, .int .u8 0, .int .u8 0, .int .u8 0, .int .u8 0, .int .u8 0, .int .u8 0, .int .u8 0, .int .u8 0, .int .u8 0, .int .u8 0, .int .u8 0, .int .u8 0, .int .u8 0, .int .u8 0, .int .u8 0, .int .u8 0, .int .u8 0, .int .u8 0, .int .u8 0, .int .u8 0, .int .u8 0, .int .u8 0, .int .u8 0, .int .u8 0, .int .u8 0, .int .u8 0, .int .u8 0, .int .u8 0, .int .u8 0] : Array Value) 24)) := ⟨_, rfl⟩
 rw [← hwyw1] at M2 HB ⊢
 clear hwyw1
 replace MB := Lib.hid (MB.out.call HB.out)
 repeat ((fail_if_success (with_reducible (show wpList _ _ _ _ _ _))); go_step)
 iterate 3 (refine wpList_step (fun K hK => ?_); go_simp; (try go_bits); refine hK _ _ ?_; clear hK K)
 refine wpList_nil ?_
 repeat ((fail_if_success (with_reducible (show wpList _ _ _ _ _ _))); go_step)
 (refine wpList_step (fun K hK => ?_); go_simp; (try go_bits); refine hK _ _ ?_; clear hK K)
 refine qm (by rfl) rfl rfl (by rfl) ent70 (by rfl) (Hfi.out _ MB.out) 9 rfl ?_
 rintro e uw1 ⟨⟨F, hF, rfl, mF⟩, hb⟩
 replace M2 := Lib.hid (M2.out.call hb)
 replace MB := Lib.hid (MB.out.call hb)
 replace HB := Lib.hid (qh HB.out hb)
 have hfg := Lib.hid (Has.figs mF); clear mF
 refine ⟨_, rfl, ?_⟩
 clear hb
 (try simp only [Act.put, sI, sS, sZ])
 clear MB
 refine qm (by rfl) rfl rfl (by rfl) ent69 (by rfl) (Hdi.out F _ hfg.out) 10 rfl ?_
 rintro e uw2 ⟨rfl, hb⟩
 replace M2 := Lib.hid (M2.out.call hb)
 replace HB := Lib.hid (qh HB.out hb)
 clear hfg
 refine ⟨_, rfl, ?_⟩
 clear hb
 (try simp only [Act.put, sI, sS, sZ])
 first | (obtain ⟨Zq, hZ, mZ⟩ := M2.out) | (obtain ⟨Zq, hZ, mZ⟩ := M2.out.toN (qf ..))
 refine ql (by rfl) 24 _ _ rfl rfl (w.heap.size) (k32 (n % L0)) rfl rfl 24 Zq mZ (by rw [qf]; kernel_rfl) (hZ.trans (qf ..).symm) (qp _ _ _) ?_
 intro yw2 hw2
 replace M2 := Lib.hid (mZ.setRow (k32 (n % L0)))
 replace HB := Lib.hid (below_setRow HB.out (w.heap.size) (k32 (n % L0)) (by omega))
 rw [← hw2] at M2 HB; clear mZ hZ hw2
 (refine wpList_step (fun K hK => ?_); go_simp; (try go_bits); refine hK _ _ ?_; clear hK K)
 refine wpList_nil ?_
 go_wp2_with fail
 exact bodyPost_ret (v := .tuple #[.agg (k32 (n % L0)), .bool true]) (QV (fn := Try.f23) (p := 2) (t2 := 3) (ty := 24) (t := 24) (by rfl) _ _ (w.heap.size) _ _ _ rfl M2.out Try.underlying24 rfl (by rw [qf]; kernel_rfl)) rfl ⟨rfl, HB.out⟩
theorem splice17 (n : Nat) (hn : n < 65536 ^ 16) : (splice (r17 0).toList 0 (zu .u32 16 (dg 65536 n))).toArray = r17 n := by
 have e : (r17 0).toList = zu .u32 17 (dg 65536 0) := rfl
 unfold splice
 rw [e]
 apply Array.ext'
 show List.take 0 (zu .u32 17 (dg 65536 0)) ++ (zu .u32 16 (dg 65536 n) ++ List.drop (0 + (zu .u32 16 (dg 65536 n)).length) (zu .u32 17 (dg 65536 0))) = zu .u32 17 (dg 65536 n)
 rw [Zf]
 have h16 : dg 65536 n 16 = 0 := by unfold dg; rw [Nat.div_eq_of_lt hn]; rfl
 have h0 : dg 65536 0 16 = 0 := by unfold dg; rw [Nat.zero_div]; rfl
 have e2 : ∀ f : Nat → Int, List.drop 16 (zu .u32 17 f) = [Value.int .u32 (f 16)] := fun _ => rfl
 have e3 : ∀ f : Nat → Int, zu .u32 17 f = zu .u32 16 f ++ [Value.int .u32 (f 16)] := fun _ => rfl
 rw [Nat.zero_add, e2, e3 (dg 65536 n), h16, h0]
 rfl
theorem p256_32 : (256 : Nat) ^ 32 = 115792089237316195423570985008687907853269984665640564039457584007913129639936 := by decide +kernel
theorem qco : (65536 : Nat) ^ 16 = 115792089237316195423570985008687907853269984665640564039457584007913129639936 := by decide +kernel
theorem kleast_any (n : Nat) (hn : n < 115792089237316195423570985008687907853269984665640564039457584007913129639936) (w : World) :
 Calls Try.prog 25 #[.agg (k32 n)] w fun e w' => e = .returned (.bool (decide (n < L0))) ∧ Below w.heap.size w w' := by
 have hn16 : n < 65536 ^ 16 := by rw [qco]; exact hn
 have hn32 : n < 256 ^ 32 := by rw [p256_32]; exact hn
 have hn17 : n < 65536 ^ 17 := Nat.lt_of_lt_of_le hn16 (Nat.pow_le_pow_right (by decide) (by decide))
 have hfi := fun a w h => qaz a 32 32 n (by decide) hn32 w h
 have hal := fun R w h => qcd R n hn17 w h
 have hdec : (!decide (L0 ≤ n)) = decide (n < L0) := by
  by_cases h : L0 ≤ n
  · rw [decide_eq_true h, decide_eq_false (by omega)]; rfl
  · rw [decide_eq_false h, decide_eq_true (by omega)]; rfl
 have hsp := splice17 n hn16
 clear hn hn16 hn32 hn17
 obtain ⟨bb, hbb⟩ : ∃ b, b = decide (L0 ≤ n) := ⟨_, rfl⟩
 rw [← hbb] at hdec
 simp only [← hbb] at hal
 clear hbb
 have Hfi := Lib.hid hfi; clear hfi
 have Hal := Lib.hid hal; clear hal
 have Hdec := Lib.hid hdec; clear hdec
 have Hsp := Lib.hid hsp; clear hsp
 go_enter Try.func25, Try.ntmps25
 repeat ((fail_if_success (with_reducible (show wpList _ _ _ _ _ _))); go_step)
 iterate 2 (refine wpList_step (fun K hK => ?_); go_simp; (try go_bits); refine hK _ _ ?_; clear hK K)
 refine wpList_nil ?_
 have M1 := Lib.hid (Has.new w  (k32 n) 24)
 have HB := Lib.hid (Qc w (.cells (k32 n) 24))
 obtain ⟨yw1, hwyw1⟩ : ∃ ww, ww = (w.alloc (.cells (k32 n) 24)) := ⟨_, rfl⟩
 rw [← hwyw1] at M1 HB ⊢
 clear hwyw1
 repeat ((fail_if_success (with_reducible (show wpList _ _ _ _ _ _))); go_step)
 refine Qt (by rfl) 93 _ rfl _ (by rfl) (r17 0) (bd93z) 4 rfl ?_
 (try simp only [Act.put, sI, sS, sZ])
 have gR := M1.out.lt
 refine wpList_step (fun K hK => ?_)
 go_simp
 refine hK _ _ ?_
 clear hK K
 have hb := Qc yw1 (.cells (r17 0) 93)
 have nwMR := Has.new yw1 (r17 0) 93
 obtain ⟨yw2, hwyw2⟩ : ∃ ww, ww = yw1.alloc (.cells (r17 0) 93) := ⟨_, rfl⟩
 rw [← hwyw2] at hb nwMR ⊢
 clear hwyw2
 replace M1 := Lib.hid (M1.out.call hb)
 replace HB := Lib.hid (qh HB.out hb)
 clear hb
 have MR := Lib.hid nwMR; clear nwMR
 (try simp only [Act.put, sI, sS, sZ])
 (refine wpList_step (fun K hK => ?_); go_simp; (try go_bits); refine hK _ _ ?_; clear hK K)
 refine wpList_nil ?_
 repeat ((fail_if_success (with_reducible (show wpList _ _ _ _ _ _))); go_step)
 refine wp_region_noPanic ?_
 refine q7 (fun _ => True) 99 6 #[ff,ff,ff,ff,ff,ff] (by kernel_rfl) rfl rfl ?_
 replace M1 := Lib.hid (M1.out.drew)
 replace MR := Lib.hid (MR.out.drew)
 replace HB := Lib.hid (qN HB.out 1)
 obtain ⟨yw3, hwyw3⟩ : ∃ ww, ww = yw2.drew := ⟨_, rfl⟩
 rw [← hwyw3] at M1 MR ⊢
 have kq : Below w.heap.size w yw3 := by rw [hwyw3]; exact HB.out
 clear HB; have HB := Lib.hid kq; clear kq hwyw3
 refine qg 0 6 #[tt,ff,ff,ff,ff,ff] (v := ?uv1) rfl rfl rfl (by kernel_rfl) (Or.inl ⟨by rfl, ?uy1⟩) (trivial) ?urest1
 case uy1 => (intro _ _; go_simp; try with_reducible rfl)
 (try simp only [sI, sS, sZ])
 refine qg 1 7 #[tt,tt,ff,ff,ff,ff] (v := ?uv2) rfl rfl rfl (by kernel_rfl) (Or.inl ⟨by rfl, ?uy2⟩) (trivial) ?urest2
 case uy2 => (intro _ _; go_simp; try with_reducible rfl)
 (try simp only [sI, sS, sZ])
 refine qg 2 8 #[tt,tt,tt,ff,ff,ff] (v := ?uv3) rfl rfl rfl (by kernel_rfl) (Or.inl ⟨by rfl, ?uy3⟩) (trivial) ?urest3
 case uy3 => (intro _ _; go_simp; try with_reducible rfl)
 (try simp only [sI, sS, sZ])
 refine qg 3 9 #[tt,tt,tt,tt,ff,ff] (v := ?uv4) rfl rfl rfl (by kernel_rfl) (Or.inl ⟨by rfl, ?uy4⟩) (trivial) ?urest4
 case uy4 => (intro _ _; go_simp; try with_reducible rfl)
 (try simp only [sI, sS, sZ])
 refine qk (i := 4) (by kernel_rfl) ?_
 refine qE 4 10 #[tt,tt,tt,tt,tt,ff] rfl rfl rfl (by rfl) rfl rfl (by rfl) ent70 (by rfl) (Hfi.out _ _ M1.out.byts) ?_
 rintro e uw1 ⟨⟨F, hF, rfl, mF⟩, hb⟩
 replace M1 := Lib.hid (M1.out.call hb)
 replace MR := Lib.hid (MR.out.call hb)
 replace HB := Lib.hid (qh HB.out hb)
 have MF := Lib.hid (Has.figs mF); clear mF
 refine ⟨_, rfl, fun _ => trivial, ?_⟩
 clear hb
 (try simp only [sI, sS, sZ])
 refine qk (i := 5) (by kernel_rfl) ?_
 refine go_any 5 #[tt,tt,tt,tt,tt,tt] rfl rfl (fun K hK => ?_)
 refine step_copy_splice rfl (.tmp 8) (.tmp 10) 86 86 rfl 91 Try.underlying86 (by kernel_rfl) _ _ 17 17 16 16 rfl rfl (yw1.heap.size) 0 (r17 0).toList 93 (by rw [Array.toArray_toList]; exact MR.out) (zu .u32 16 (dg 65536 n)) (by rw [Zf]; rfl) (fun _ => ⟨rfl, _, rfl, fun j v hv => ?_⟩) (by rw [Zf]; simp [zN]) (Ze _ _ _) (yw1.heap.size) uw1 (Below.refl _ _) (Nat.le_refl _) ?_
 · have hj : j < 16 := by have := (List.getElem?_eq_some_iff.1 hv).1; rwa [Zf] at this
   have h2 := MF.out.2 j hj
   have h3 : (zu .u32 16 (dg 65536 n))[j]? = some (.int .u32 (dg 65536 n j)) := by simp [zu, hj]
   rw [h3] at hv
   obtain rfl := Option.some.inj hv
   show _ = _
   rw [Addr.add_mid, Nat.zero_add]; exact h2
 · intro w4 hg4 hb4
   rw [Hsp.out] at hg4
   replace MR := Lib.hid (show Has w4 yw1.heap.size (r17 n) 93 from hg4.out)
   replace HB := Lib.hid (HB.out.trans (hb4.mono (by omega)))
   clear hg4 hb4 M1 MF
   refine hK.out _ _ (fun _ => trivial) ?_
   clear hK K
   (try simp only [Act.put, sI, sS, sZ])
   refine qu (by kernel_rfl) (NoPanic.normal ?_)
   repeat ((fail_if_success (with_reducible (show wpList _ _ _ _ _ _))); go_step)
   have hdec := Hdec.out
   (refine wpList_step (fun K hK => ?_); go_simp; (try go_bits); refine hK _ _ ?_; clear hK K)
   refine qm (by rfl) rfl rfl (by rfl) ent72 (by rfl) (Hal.out _ _ MR.out) 13 rfl ?_
   rintro e uw2 ⟨rfl, hb⟩
   replace MR := Lib.hid (MR.out.call hb)
   replace HB := Lib.hid (qh HB.out hb)
   refine ⟨_, rfl, ?_⟩
   clear hb
   (try simp only [Act.put, sI, sS, sZ])
   iterate 2 (refine wpList_step (fun K hK => ?_); go_simp; (try go_bits); refine hK _ _ ?_; clear hK K)
   refine wpList_nil ?_
   go_wp2_with fail
   go_ret
   exact ⟨rfl, HB.out⟩
end
section
open Go.RowKit Go.Sx
def leN : List UInt8 → Nat
 | [] => 0
 | b :: l => b.toNat + 256 * leN l
theorem qaw (l : List UInt8) : leN l < 256 ^ l.length := by
 induction l with
 | nil => decide
 | cons b l ih =>
  have := b.toNat_lt
  rw [leN, List.length_cons, Nat.pow_succ]; omega
theorem leN_dg (l : List UInt8) : ∀ i, i < l.length → dg 256 (leN l) i = ((l.getD i 0).toNat : Int) := by
 induction l with
 | nil => intro i hi; cases hi
 | cons b l ih =>
  intro i hi
  have hb := b.toNat_lt
  cases i with
  | zero => unfold dg leN; rw [Nat.pow_zero, Nat.div_one]; simp
  | succ i =>
   have := ih i (by simpa using hi)
   unfold dg at this ⊢
   rw [leN, Nat.pow_succ, Nat.mul_comm (256 ^ i), ← Nat.div_div_eq_div_mul, show (b.toNat + 256 * leN l) / 256 = leN l by omega]
   rw [this]; simp
def qC (n : Nat) : List UInt8 := (List.range 32).map fun i => UInt8.ofNat (n / 256 ^ i % 256)
theorem qo (n : Nat) : (qC n).length = 32 := by simp [qC]
theorem zl (n : Nat) : k32 n = (Lib.byteCells (qC n)).toArray := by
 unfold k32 row
 congr 1
 unfold zu Lib.byteCells qC
 rw [List.map_map]
 apply List.map_congr_left
 intro i hi
 simp [dg]
theorem Q9 (l : List UInt8) (h : l.length = 32) : (Lib.byteCells l).toArray = k32 (leN l) := by
 rw [zl]
 congr 2
 refine List.ext_getElem (by rw [h, qo]) fun i h1 h2 => ?_
 have e := leN_dg l i h1
 unfold dg at e
 have e' : leN l / 256 ^ i % 256 = (l.getD i 0).toNat := by omega
 simp only [qC, List.getElem_map, List.getElem_range, e']
 simp [List.getD, h1]
theorem byts_of {w : World} {v : Value} {l : List UInt8} (h : Rd w v (Lib.byteCells l)) : ∃ a c, v = .slice a l.length c ∧ Byts w a l.length (leN l) := by
 obtain ⟨a, c, hv, h⟩ := h
 rw [Lib.byteCells_length] at hv
 refine ⟨a, c, hv, ?_⟩
 by_cases hl : l = []
 · left; rw [hl]; rfl
 · right
   obtain ⟨b, o, h1, h2, h3⟩ := h (by intro e; apply hl; have := congrArg List.length e; rw [Lib.byteCells_length] at this; exact List.eq_nil_of_length_eq_zero this)
   refine ⟨b, o, h1, h2, fun i hi => ?_⟩
   rw [h3 i _ (qaD l i hi), leN_dg l i hi]
def Parts (w : World) (v : Value) (bs : List UInt8) : Prop := ∃ (pb po kc : Nat) (vs : List Value) (xss : List (List Value)), v = .slice (some ⟨pb, po, none⟩) xss.length kc ∧ xss.flatten = Lib.byteCells bs ∧ vs.length = xss.length ∧ pb < w.heap.size ∧
 (∀ (i : Nat) (u : Value), vs[i]? = some u → w.cell? ⟨pb, po + i, none⟩ = some u) ∧ (∀ (i : Nat) (v : Value) (xs : List Value), vs[i]? = some v → xss[i]? = some xs → Rd w v xs) ∧ xss.length ≤ 1000
theorem Parts.below {w w' : World} {v : Value} {bs : List UInt8} (h : Parts w v bs) (hb : Below w.heap.size w w') : Parts w' v bs := by
 obtain ⟨pb, po, kc, vs, xss, h1, h2, h3, h4, h5, h6, h7⟩ := h
 exact ⟨pb, po, kc, vs, xss, h1, h2, h3, Nat.lt_of_lt_of_le h4 hb.size, fun i u hu => (hb.cell (p := ⟨pb, po + i, none⟩) h4).trans (h5 i u hu), fun i v xs hv hx => (h6 i v xs hv hx).below hb, h7⟩
theorem Parts.made {M : Bks} {B w : World} {L : List Ent} (hs : St M B w L) (k : Nat) {b : Nat} {vs : List Value} {t : TypeId} (xss : List (List Value)) {bs : List UInt8} (n : Nat) (hk : L[k]? = some (cl b vs.toArray t)) (hn : xss.length = n) (hl : vs.length = xss.length) (hx : xss.flatten = Lib.byteCells bs)
 (hr : ∀ (i : Nat) (v : Value) (xs : List Value), vs[i]? = some v → xss[i]? = some xs → Rd w v xs) (h7 : xss.length ≤ 1000) : Parts w (.slice (some ⟨b, 0, none⟩) n n) bs := by
 subst hn
 refine ⟨b, 0, xss.length, vs, xss, rfl, hx, hl, hs.lt (List.mem_of_getElem? hk) rfl, fun i u hu => ?_, hr, h7⟩
 rw [hs.cell hk, Nat.zero_add]; simpa using hu
theorem long_p {w : World} {v : Value} {bs : List UInt8} (h : Parts w v bs) (hn : bs.length ≤ 1000000) : Calls Try.prog 112 ([v] : List Value).toArray w fun e w' => e = .returned (Qr (zt bs)) ∧ Below w.heap.size w w' := by
 obtain ⟨pb, po, kc, vs, xss, rfl, h2, h3, h4, h5, h6, h7⟩ := h
 exact long_any pb po kc vs xss bs h2 h3 w h4 h5 h6 hn h7
theorem qbH {w : World} {v : Value} {bs : List UInt8} (h : Parts w v bs) (hn : bs.length ≤ 1000000) : Calls Try.prog 98 ([v] : List Value).toArray w fun e w' => ∃ r, e = .returned (sv r bs.length) ∧ Rw 1 bs.length r (Lib.byteCells bs) ∧ qdl w w' r (Lib.byteCells bs) 5 ∧ Below w.heap.size w w' := by
 obtain ⟨pb, po, kc, vs, xss, rfl, h2, h3, h4, h5, h6, h7⟩ := h
 have := qde pb po kc vs xss h3 w h4 h5 h6 (fun xs hxs u hu => by
  have : u ∈ xss.flatten := List.mem_flatten.2 ⟨xs, hxs, hu⟩
  rw [h2] at this
  simp only [Lib.byteCells, List.mem_map] at this
  obtain ⟨_, _, rfl⟩ := this; rfl) (by rw [h2, Lib.byteCells_length]; omega) h7
 rwa [h2, Lib.byteCells_length] at this
end
end Go.Proofs.Ytjiagjonlcadiaa
namespace Go.Proofs.Ytjiagjonlcadiaa.Nm
section
def pm (m : Nat) : Nat → Nat → Nat → Nat
 | 0, _, _ => 1 % m
 | f + 1, b, e => if e % 2 = 1 then pm m f (b * b % m) (e / 2) * b % m else pm m f (b * b % m) (e / 2)
theorem zX (b m e : Nat) : (b % m) ^ e % m = b ^ e % m := (Nat.pow_mod b e m).symm
theorem pm_eq (m f : Nat) : ∀ b e, e < 2 ^ f → pm m f b e = b ^ e % m := by
 induction f with
 | zero => intro b e h; have : e = 0 := by simpa using h
           subst this; simp [pm]
 | succ f ih =>
  intro b e h
  have h2 : e / 2 < 2 ^ f := by rw [Nat.pow_succ] at h; omega
  have e1 : (b * b % m) ^ (e / 2) % m = b ^ (2 * (e / 2)) % m := by
   rw [zX, Nat.pow_mul, Nat.pow_two]
  unfold pm
  rw [ih _ _ h2, e1]
  split
  · rename_i ho
    have : e = 2 * (e / 2) + 1 := by omega
    conv => rhs; rw [this, Nat.pow_succ]
    rw [Nat.mod_mul_mod]
  · rename_i ho
    have : e = 2 * (e / 2) := by omega
    conv => rhs; rw [this]
def Pr (q : Nat) : Prop := 1 < q ∧ ∀ a b, q ∣ a * b → q ∣ a ∨ q ∣ b
theorem pr_of_divs {q : Nat} (h1 : 1 < q) (h : ∀ d, d ∣ q → d = 1 ∨ d = q) : Pr q := by
 refine ⟨h1, fun a b hab => ?_⟩
 rcases h (Nat.gcd q a) (Nat.gcd_dvd_left q a) with hg | hg
 · exact Or.inr (Nat.Coprime.dvd_of_dvd_mul_left hg hab)
 · exact Or.inl (hg ▸ Nat.gcd_dvd_right q a)
theorem Pr.divs {q : Nat} (h : Pr q) {d : Nat} (hd : d ∣ q) : d = 1 ∨ d = q := by
 obtain ⟨h1, h⟩ := h
 obtain ⟨e, he⟩ := hd
 have h0 : q ∣ d * e := he ▸ Nat.dvd_refl q
 rcases h d e h0 with hh | hh
 · right; exact Nat.dvd_antisymm ⟨e, he⟩ hh
 · left
   have : e = q := Nat.dvd_antisymm ⟨d, by rw [he, Nat.mul_comm]⟩ hh
   subst this
   have : d * e = 1 * e := by omega
   exact Nat.eq_of_mul_eq_mul_right (by omega) this
def noDiv (n : Nat) : Nat → Nat → Bool
 | 0, _ => true
 | f + 1, d => n % d != 0 && noDiv n f (d + 1)
theorem noDiv_spec (n : Nat) : ∀ f d, noDiv n f d = true → ∀ k, d ≤ k → k < d + f → ¬ k ∣ n := by
 intro f
 induction f with
 | zero => intro d _ k h1 h2; omega
 | succ f ih =>
  intro d h k h1 h2
  simp only [noDiv, Bool.and_eq_true, bne_iff_ne] at h
  by_cases hk : k = d
  · subst hk; intro hd; exact h.1 (Nat.mod_eq_zero_of_dvd hd)
  · exact ih (d + 1) h.2 k (by omega) (by omega)
theorem q5 {n f : Nat} (h1 : 1 < n) (hf : n < (f + 2) * (f + 2)) (h : noDiv n f 2 = true) : Pr n := by
 have key := noDiv_spec n f 2 h
 refine pr_of_divs h1 fun d hd => ?_
 obtain ⟨e, he⟩ := hd
 have he0 : 0 < e := by
  rcases Nat.eq_zero_or_pos e with h0 | h0
  · subst h0; omega
  · exact h0
 have hd0 : 0 < d := by
  rcases Nat.eq_zero_or_pos d with h0 | h0
  · subst h0; omega
  · exact h0
 by_cases hd1 : d = 1
 · exact Or.inl hd1
 by_cases he1 : e = 1
 · right; subst he1; omega
 exfalso
 by_cases hdl : d < f + 2
 · exact key d (by omega) (by omega) ⟨e, he⟩
 · by_cases hel : e < f + 2
   · exact key e (by omega) (by omega) ⟨d, by rw [he, Nat.mul_comm]⟩
   · have : (f + 2) * (f + 2) ≤ d * e := Nat.mul_le_mul (by omega) (by omega)
     omega
def prod : List Nat → Nat
 | [] => 1
 | q :: l => q * prod l
theorem qdv (l : List Nat) (hl : ∀ q ∈ l, Pr q) (k : Nat) (hk : k ∣ prod l) (h1 : k ≠ 1) : ∃ q ∈ l, q ∣ k := by
 induction l generalizing k with
 | nil => exact absurd (Nat.dvd_one.1 hk) h1
 | cons q l ih =>
  rcases (hl q (by simp)).divs (Nat.gcd_dvd_right k q) with hg | hg
  · have : k ∣ prod l := Nat.Coprime.dvd_of_dvd_mul_left hg hk
    obtain ⟨r, hr, hrk⟩ := ih (fun r hr => hl r (by simp [hr])) k this h1
    exact ⟨r, by simp [hr], hrk⟩
  · exact ⟨q, by simp, hg ▸ Nat.gcd_dvd_left k q⟩
theorem least_of (p : Nat → Prop) (n : Nat) (hn : p n) : ∃ m, p m ∧ ∀ k, k < m → ¬ p k := by
 induction n using Nat.strongRecOn with
 | _ n ih =>
  by_cases h : ∃ k, k < n ∧ p k
  · obtain ⟨k, hk, hpk⟩ := h
    exact ih k hk hpk
  · exact ⟨n, hn, fun k hk hp => h ⟨k, hk, hp⟩⟩
theorem pigeon (N : Nat) : ∀ f : Nat → Nat, (∀ i, i < N → f i < N) → (∀ i j, i < N → j < N → f i = f j → i = j) → ∀ y, y < N → ∃ i, i < N ∧ f i = y := by
 induction N with
 | zero => intro f _ _ y hy; omega
 | succ N ih =>
  intro f hr hi y hy
  have hr' : ∀ i, i < N → (if f i = N then f N else f i) < N := by
   intro i hiN
   split
   · rename_i h
     have h1 := hr N (by omega)
     have h2 : f N ≠ N := fun h3 => by have := hi i N (by omega) (by omega) (by omega); omega
     omega
   · have := hr i (by omega); omega
  have hi' : ∀ i j, i < N → j < N → (if f i = N then f N else f i) = (if f j = N then f N else f j) → i = j := by
   intro i j h1 h2 h
   split at h <;> split at h
   · exact hi i j (by omega) (by omega) (by omega)
   · have := hi N j (by omega) (by omega) h; omega
   · have := hi i N (by omega) (by omega) h; omega
   · exact hi i j (by omega) (by omega) h
  have H := ih (fun i => if f i = N then f N else f i) hr' hi'
  by_cases hv : y = f N
  · exact ⟨N, by omega, hv.symm⟩
  by_cases hyN : y = N
  · subst hyN
    have hfN : f y < y := by have := hr y (by omega); omega
    obtain ⟨i, hiN, he⟩ := H (f y) hfN
    split at he
    · exact ⟨i, by omega, by assumption⟩
    · have := hi i y (by omega) (by omega) he; omega
  · obtain ⟨i, hiN, he⟩ := H y (by omega)
    split at he
    · exact absurd he.symm hv
    · exact ⟨i, by omega, he⟩
theorem qc0 {n x y : Nat} (h : x % n = 1) (h' : (x * y) % n = 1) : y % n = 1 := by
 have : (x % n * y) % n = 1 := by rw [Nat.mod_mul_mod]; exact h'
 rw [h, Nat.one_mul] at this
 exact this
structure Gen (n g : Nat) : Prop where
 one : 1 < n
 flt : g ^ (n - 1) % n = 1
 all : ∀ a, 0 < a → a < n → ∃ i, i < n - 1 ∧ g ^ i % n = a
theorem lucas {n g : Nat} (l : List Nat) (h1 : 1 < n) (hl : ∀ q ∈ l, Pr q) (hp : prod l = n - 1) (hg : g ^ (n - 1) % n = 1)
 (hq : ∀ q ∈ l, g ^ ((n - 1) / q) % n ≠ 1) : Gen n g := by
 -- the order
 obtain ⟨m, ⟨hm0, hm1⟩, hmin⟩ := least_of (fun m => 0 < m ∧ g ^ m % n = 1) (n - 1) ⟨by omega, hg⟩
 have hpowmul : ∀ k, g ^ (m * k) % n = 1 := by
  intro k
  rw [Nat.pow_mul, Nat.pow_mod, hm1, Nat.one_pow, Nat.mod_eq_of_lt h1]
 have hdiv : ∀ k, g ^ k % n = 1 → m ∣ k := by
  intro k hk
  have e1 : g ^ k = g ^ (m * (k / m)) * g ^ (k % m) := by rw [← Nat.pow_add, Nat.div_add_mod]
  have e2 : g ^ (k % m) % n = 1 := qc0 (hpowmul (k / m)) (by rw [← e1]; exact hk)
  have hlt := Nat.mod_lt k hm0
  by_cases hz : k % m = 0
  · exact Nat.dvd_of_mod_eq_zero hz
  · exact absurd ⟨by omega, e2⟩ (hmin _ hlt)
 have hmn : m = n - 1 := by
  obtain ⟨k, hk⟩ := hdiv _ hg
  by_cases hk1 : k = 1
  · subst hk1; omega
  obtain ⟨q, hql, c, hc⟩ := qdv l hl k ⟨m, by rw [hp, hk, Nat.mul_comm]⟩ hk1
  exfalso
  have hq1 := (hl q hql).1
  have : (n - 1) / q = m * c := by
   rw [hk, hc, show m * (q * c) = q * (m * c) by ac_rfl]
   exact Nat.mul_div_cancel_left _ (by omega)
  exact hq q hql (by rw [this]; exact hpowmul c)
 subst hmn
 have hinv : ∀ i, i ≤ n - 1 → (g ^ i * g ^ (n - 1 - i)) % n = 1 := by
  intro i hi
  rw [← Nat.pow_add, show i + (n - 1 - i) = n - 1 by omega]; exact hg
 have hnz : ∀ i, i < n - 1 → 0 < g ^ i % n := by
  intro i hi
  rcases Nat.eq_zero_or_pos (g ^ i % n) with h0 | h0
  · have := hinv i (by omega)
    rw [← Nat.mod_mul_mod, h0, Nat.zero_mul, Nat.zero_mod] at this
    omega
  · exact h0
 have hinj : ∀ i j, i < j → j < n - 1 → g ^ i % n = g ^ j % n → False := by
  intro i j hij hj he
  have h2 : (g ^ j * g ^ (n - 1 - i)) % n = 1 := by
   rw [← Nat.mod_mul_mod, ← he, Nat.mod_mul_mod]; exact hinv i (by omega)
  have e1 : g ^ j * g ^ (n - 1 - i) = g ^ (n - 1) * g ^ (j - i) := by
   rw [← Nat.pow_add, ← Nat.pow_add]; congr 1; omega
  rw [e1] at h2
  exact hmin (j - i) (by omega) ⟨by omega, qc0 hg h2⟩
 refine ⟨h1, hg, fun a ha0 han => ?_⟩
 obtain ⟨i, hi, he⟩ := pigeon (n - 1) (fun i => g ^ i % n - 1) (fun i hi => by
  have := hnz i hi; have := Nat.mod_lt (g ^ i) (show 0 < n by omega); omega) (fun i j hi hj h => by
  have h1 := hnz i hi
  have h2 := hnz j hj
  have h3 : g ^ i % n = g ^ j % n := by omega
  rcases Nat.lt_trichotomy i j with hh | hh | hh
  · exact (hinj i j hh hj h3).elim
  · exact hh
  · exact (hinj j i hh hi h3.symm).elim) (a - 1) (by omega)
 exact ⟨i, hi, by have := hnz i hi; omega⟩
theorem Gen.pr {n g : Nat} (h : Gen n g) : Pr n := by
 obtain ⟨h1, hg, hall⟩ := h
 refine ⟨h1, fun a b hab => ?_⟩
 by_cases ha : a % n = 0
 · exact Or.inl (Nat.dvd_of_mod_eq_zero ha)
 right
 obtain ⟨i, hi, he⟩ := hall (a % n) (by omega) (Nat.mod_lt _ (by omega))
 have hb : (g ^ (n - 1 - i) * a) % n = 1 := by
  rw [Nat.mul_comm, ← Nat.mod_mul_mod, ← he, Nat.mod_mul_mod, ← Nat.pow_add, show i + (n - 1 - i) = n - 1 by omega]; exact hg
 have h2 : (g ^ (n - 1 - i) * a * b) % n = 0 := by
  rw [Nat.mul_assoc]; exact Nat.mod_eq_zero_of_dvd (Nat.dvd_trans hab ⟨g ^ (n - 1 - i), by ac_rfl⟩)
 rw [← Nat.mod_mul_mod, hb, Nat.one_mul] at h2
 exact Nat.dvd_of_mod_eq_zero h2
theorem Gen.little {n g : Nat} (h : Gen n g) (a : Nat) (ha : a % n ≠ 0) : a ^ (n - 1) % n = 1 := by
 obtain ⟨h1, hg, hall⟩ := h
 obtain ⟨i, _, he⟩ := hall (a % n) (by omega) (Nat.mod_lt _ (by omega))
 rw [← zX, ← he, zX, ← Nat.pow_mul, Nat.mul_comm, Nat.pow_mul, ← zX, hg, Nat.one_pow, Nat.mod_eq_of_lt h1]
theorem zO {n g : Nat} (l : List Nat) (h1 : 1 < n) (hn : n < 2 ^ 256) (hl : ∀ q ∈ l, Pr q) (hp : prod l = n - 1) (hg : pm n 256 g (n - 1) = 1)
 (hq : l.all (fun q => pm n 256 g ((n - 1) / q) != 1) = true) : Gen n g := by
 refine lucas l h1 hl hp (by rw [← pm_eq n 256 g (n - 1) (by omega)]; exact hg) fun q hql => ?_
 have := List.all_eq_true.1 hq q hql
 have hlt : (n - 1) / q < 2 ^ 256 := Nat.lt_of_le_of_lt (Nat.div_le_self _ _) (by omega)
 rw [pm_eq n 256 g _ hlt] at this
 simpa using this
theorem qaU : Pr 2 := q5 (f := 0) (by decide) (by decide) (by decide +kernel)
theorem pr_3 : Pr 3 := q5 (f := 0) (by decide) (by decide) (by decide +kernel)
theorem pr_65147 : Pr 65147 := q5 (f := 254) (by decide) (by decide) (by decide +kernel)
theorem pr_353 : Pr 353 := q5 (f := 17) (by decide) (by decide) (by decide +kernel)
theorem pr_57467 : Pr 57467 := q5 (f := 238) (by decide) (by decide) (by decide +kernel)
theorem pr_132049 : Pr 132049 := q5 (f := 362) (by decide) (by decide) (by decide +kernel)
theorem pr_1923133 : Pr 1923133 := q5 (f := 1385) (by decide) (by decide) (by decide +kernel)
theorem pr_31 : Pr 31 := q5 (f := 4) (by decide) (by decide) (by decide +kernel)
theorem pr_107 : Pr 107 := q5 (f := 9) (by decide) (by decide) (by decide +kernel)
theorem pr_223 : Pr 223 := q5 (f := 13) (by decide) (by decide) (by decide +kernel)
theorem pr_4153 : Pr 4153 := q5 (f := 63) (by decide) (by decide) (by decide +kernel)
theorem pr_430751 : Pr 430751 := q5 (f := 655) (by decide) (by decide) (by decide +kernel)
theorem gen_31757755568855353 : Gen 31757755568855353 10 := by
 refine zO [2, 2, 2, 3, 31, 107, 223, 4153, 430751] (by decide) (by decide) ?_ (by decide +kernel) (by decide +kernel) (by decide +kernel)
 intro q hq
 simp only [List.mem_cons, List.not_mem_nil, or_false] at hq
 rcases hq with rfl | rfl | rfl | rfl | rfl | rfl | rfl | rfl | rfl
 · exact qaU
 · exact qaU
 · exact qaU
 · exact pr_3
 · exact pr_31
 · exact pr_107
 · exact pr_223
 · exact pr_4153
 · exact pr_430751
theorem qas : Pr 31757755568855353 := gen_31757755568855353.pr
theorem pr_5 : Pr 5 := q5 (f := 1) (by decide) (by decide) (by decide +kernel)
theorem pr_75707 : Pr 75707 := q5 (f := 274) (by decide) (by decide) (by decide +kernel)
theorem pr_13 : Pr 13 := q5 (f := 2) (by decide) (by decide) (by decide +kernel)
theorem pr_2437 : Pr 2437 := q5 (f := 48) (by decide) (by decide) (by decide +kernel)
theorem pr_569003 : Pr 569003 := q5 (f := 753) (by decide) (by decide) (by decide +kernel)
theorem gen_2773320623 : Gen 2773320623 5 := by
 refine zO [2, 2437, 569003] (by decide) (by decide) ?_ (by decide +kernel) (by decide +kernel) (by decide +kernel)
 intro q hq
 simp only [List.mem_cons, List.not_mem_nil, or_false] at hq
 rcases hq with rfl | rfl | rfl
 · exact qaU
 · exact pr_2437
 · exact pr_569003
theorem qdo : Pr 2773320623 := gen_2773320623.pr
theorem gen_72106336199 : Gen 72106336199 7 := by
 refine zO [2, 13, 2773320623] (by decide) (by decide) ?_ (by decide +kernel) (by decide +kernel) (by decide +kernel)
 intro q hq
 simp only [List.mem_cons, List.not_mem_nil, or_false] at hq
 rcases hq with rfl | rfl | rfl
 · exact qaU
 · exact pr_13
 · exact qdo
theorem qcP : Pr 72106336199 := gen_72106336199.pr
theorem pr_7 : Pr 7 := q5 (f := 1) (by decide) (by decide) (by decide +kernel)
theorem pr_19 : Pr 19 := q5 (f := 3) (by decide) (by decide) (by decide +kernel)
theorem pr_47 : Pr 47 := q5 (f := 5) (by decide) (by decide) (by decide +kernel)
theorem pr_127 : Pr 127 := q5 (f := 10) (by decide) (by decide) (by decide +kernel)
theorem pr_103 : Pr 103 := q5 (f := 9) (by decide) (by decide) (by decide +kernel)
theorem pr_991 : Pr 991 := q5 (f := 30) (by decide) (by decide) (by decide +kernel)
theorem gen_8574133 : Gen 8574133 2 := by
 refine zO [2, 2, 3, 7, 103, 991] (by decide) (by decide) ?_ (by decide +kernel) (by decide +kernel) (by decide +kernel)
 intro q hq
 simp only [List.mem_cons, List.not_mem_nil, or_false] at hq
 rcases hq with rfl | rfl | rfl | rfl | rfl | rfl
 · exact qaU
 · exact qaU
 · exact pr_3
 · exact pr_7
 · exact pr_103
 · exact pr_991
theorem pr_8574133 : Pr 8574133 := gen_8574133.pr
theorem gen_1919519569386763 : Gen 1919519569386763 2 := by
 refine zO [2, 3, 7, 19, 47, 47, 127, 8574133] (by decide) (by decide) ?_ (by decide +kernel) (by decide +kernel) (by decide +kernel)
 intro q hq
 simp only [List.mem_cons, List.not_mem_nil, or_false] at hq
 rcases hq with rfl | rfl | rfl | rfl | rfl | rfl | rfl | rfl
 · exact qaU
 · exact pr_3
 · exact pr_7
 · exact pr_19
 · exact pr_47
 · exact pr_47
 · exact pr_127
 · exact pr_8574133
theorem qaV : Pr 1919519569386763 := gen_1919519569386763.pr
theorem gen_75445702479781427272750846543864801 : Gen 75445702479781427272750846543864801 7 := by
 refine zO [2, 2, 2, 2, 2, 3, 3, 5, 5, 75707, 72106336199, 1919519569386763] (by decide) (by decide) ?_ (by decide +kernel) (by decide +kernel) (by decide +kernel)
 intro q hq
 simp only [List.mem_cons, List.not_mem_nil, or_false] at hq
 rcases hq with rfl | rfl | rfl | rfl | rfl | rfl | rfl | rfl | rfl | rfl | rfl | rfl
 · exact qaU
 · exact qaU
 · exact qaU
 · exact qaU
 · exact qaU
 · exact pr_3
 · exact pr_3
 · exact pr_5
 · exact pr_5
 · exact pr_75707
 · exact qcP
 · exact qaV
theorem QW : Pr 75445702479781427272750846543864801 := gen_75445702479781427272750846543864801.pr
theorem gen_74058212732561358302231226437062788676166966415465897661863160754340907 : Gen 74058212732561358302231226437062788676166966415465897661863160754340907 2 := by
 refine zO [2, 3, 353, 57467, 132049, 1923133, 31757755568855353, 75445702479781427272750846543864801] (by decide) (by decide) ?_ (by decide +kernel) (by decide +kernel) (by decide +kernel)
 intro q hq
 simp only [List.mem_cons, List.not_mem_nil, or_false] at hq
 rcases hq with rfl | rfl | rfl | rfl | rfl | rfl | rfl | rfl
 · exact qaU
 · exact pr_3
 · exact pr_353
 · exact pr_57467
 · exact pr_132049
 · exact pr_1923133
 · exact qas
 · exact QW
theorem q6 : Pr 74058212732561358302231226437062788676166966415465897661863160754340907 := gen_74058212732561358302231226437062788676166966415465897661863160754340907.pr
theorem gen_P : Gen 57896044618658097711785492504343953926634992332820282019728792003956564819949 2 := by
 refine zO [2, 2, 3, 65147, 74058212732561358302231226437062788676166966415465897661863160754340907] (by decide) (by decide) ?_ (by decide +kernel) (by decide +kernel) (by decide +kernel)
 intro q hq
 simp only [List.mem_cons, List.not_mem_nil, or_false] at hq
 rcases hq with rfl | rfl | rfl | rfl | rfl
 · exact qaU
 · exact qaU
 · exact pr_3
 · exact pr_65147
 · exact q6
theorem pr_P : Pr 57896044618658097711785492504343953926634992332820282019728792003956564819949 := gen_P.pr
end
end Go.Proofs.Ytjiagjonlcadiaa.Nm
namespace Go.Proofs.Ytjiagjonlcadiaa
section
structure Fld (n : Nat) [NeZero n] (d : Fin n) (i : Fin n) (inv : Fin n → Fin n) : Prop where
 dom : ∀ a b : Fin n, a * b = 0 → a = 0 ∨ b = 0
 one : (1 : Fin n) ≠ 0
 two : (1 : Fin n) + 1 ≠ 0
 root : i * i = -1
 non : ∀ s t : Fin n, s * s = d * (t * t) → t = 0
 inv : ∀ a : Fin n, a ≠ 0 → a * inv a = 1
variable {n : Nat} [NeZero n] {d i : Fin n} {inv : Fin n → Fin n}
def On (d x y : Fin n) : Prop := y * y - x * x = 1 + d * x * x * y * y
theorem Fld.eps (F : Fld n d i inv) (x1 y1 x2 y2 e : Fin n) (h1 : On d x1 y1) (h2 : On d x2 y2) (he : e = d * x1 * x2 * y1 * y2) : e * e ≠ 1 := by
 intro hee
 unfold On at h1 h2
 have hr := F.root
 have hp : (i * x1 + e * y1) * (i * x1 + e * y1) = d * ((x1 * y1 * (i * x2 + y2)) * (x1 * y1 * (i * x2 + y2))) := by grind
 have hm : (i * x1 - e * y1) * (i * x1 - e * y1) = d * ((x1 * y1 * (i * x2 - y2)) * (x1 * y1 * (i * x2 - y2))) := by grind
 have tp := F.non _ _ hp
 have tm := F.non _ _ hm
 have hy : (1 + 1) * (x1 * y1 * y2) = 0 := by grind
 have hz : x1 * y1 * y2 = 0 := (F.dom _ _ hy).resolve_left F.two
 have h0 : e = 0 := by grind
 apply F.one
 grind
theorem Fld.plus_ne (F : Fld n d i inv) (x1 y1 x2 y2 : Fin n) (h1 : On d x1 y1) (h2 : On d x2 y2) : 1 + d * x1 * x2 * y1 * y2 ≠ 0 := by
 intro h
 refine F.eps x1 y1 x2 y2 _ h1 h2 rfl ?_
 grind
theorem Fld.minus_ne (F : Fld n d i inv) (x1 y1 x2 y2 : Fin n) (h1 : On d x1 y1) (h2 : On d x2 y2) : 1 - d * x1 * x2 * y1 * y2 ≠ 0 := by
 intro h
 refine F.eps x1 y1 x2 y2 _ h1 h2 rfl ?_
 grind
def sx (inv : Fin n → Fin n) (d x1 y1 x2 y2 : Fin n) : Fin n := (x1 * y2 + x2 * y1) * inv (1 + d * x1 * x2 * y1 * y2)
def sy (inv : Fin n → Fin n) (d x1 y1 x2 y2 : Fin n) : Fin n := (y1 * y2 + x1 * x2) * inv (1 - d * x1 * x2 * y1 * y2)
theorem Fld.cancel (F : Fld n d i inv) (a b c : Fin n) (hc : c ≠ 0) (h : a * c = b * c) : a = b := by
 have h0 : (a - b) * c = 0 := by grind
 have := (F.dom _ _ h0).resolve_right hc
 grind
theorem Fld.sx_eq (F : Fld n d i inv) (x1 y1 x2 y2 : Fin n) (h1 : On d x1 y1) (h2 : On d x2 y2) : sx inv d x1 y1 x2 y2 * (1 + d * x1 * x2 * y1 * y2) = x1 * y2 + x2 * y1 := by
 have := F.inv _ (F.plus_ne x1 y1 x2 y2 h1 h2)
 unfold sx; grind
theorem Fld.sy_eq (F : Fld n d i inv) (x1 y1 x2 y2 : Fin n) (h1 : On d x1 y1) (h2 : On d x2 y2) : sy inv d x1 y1 x2 y2 * (1 - d * x1 * x2 * y1 * y2) = y1 * y2 + x1 * x2 := by
 have := F.inv _ (F.minus_ne x1 y1 x2 y2 h1 h2)
 unfold sy; grind
theorem on_poly (x1 y1 x2 y2 : Fin n) (h1 : On d x1 y1) (h2 : On d x2 y2) :
 (y1 * y2 + x1 * x2) * (y1 * y2 + x1 * x2) * ((1 + d * x1 * x2 * y1 * y2) * (1 + d * x1 * x2 * y1 * y2)) - (x1 * y2 + x2 * y1) * (x1 * y2 + x2 * y1) * ((1 - d * x1 * x2 * y1 * y2) * (1 - d * x1 * x2 * y1 * y2))
  = (1 + d * x1 * x2 * y1 * y2) * (1 + d * x1 * x2 * y1 * y2) * ((1 - d * x1 * x2 * y1 * y2) * (1 - d * x1 * x2 * y1 * y2)) + d * ((x1 * y2 + x2 * y1) * (x1 * y2 + x2 * y1)) * ((y1 * y2 + x1 * x2) * (y1 * y2 + x1 * x2)) := by
 unfold On at h1 h2
 grind
theorem Fld.on_sum (F : Fld n d i inv) (x1 y1 x2 y2 : Fin n) (h1 : On d x1 y1) (h2 : On d x2 y2) : On d (sx inv d x1 y1 x2 y2) (sy inv d x1 y1 x2 y2) := by
 have hp := F.plus_ne x1 y1 x2 y2 h1 h2
 have hm := F.minus_ne x1 y1 x2 y2 h1 h2
 have ex := F.sx_eq x1 y1 x2 y2 h1 h2
 have ey := F.sy_eq x1 y1 x2 y2 h1 h2
 have hq := on_poly x1 y1 x2 y2 h1 h2
 generalize sx inv d x1 y1 x2 y2 = X at *
 generalize sy inv d x1 y1 x2 y2 = Y at *
 generalize 1 + d * x1 * x2 * y1 * y2 = P at *
 generalize 1 - d * x1 * x2 * y1 * y2 = M at *
 rw [← ex, ← ey] at hq
 have hpm : P * P * (M * M) ≠ 0 := by
  intro h
  rcases F.dom _ _ h with h | h <;> rcases F.dom _ _ h with h | h <;> contradiction
 unfold On
 refine F.cancel _ _ (P * P * (M * M)) hpm ?_
 grind
theorem x_poly (x1 y1 x2 y2 x3 y3 : Fin n) (h1 : On d x1 y1) (h2 : On d x2 y2) (h3 : On d x3 y3) :
 ((x1*y2+x2*y1)*(1-d*x1*x2*y1*y2)*y3 + x3*((y1*y2+x1*x2)*(1+d*x1*x2*y1*y2))) * ((1+d*x2*x3*y2*y3)*(1-d*x2*x3*y2*y3) + d*x1*y1*((x2*y3+x3*y2)*(y2*y3+x2*x3)))
 = (x1*((y2*y3+x2*x3)*(1+d*x2*x3*y2*y3)) + (x2*y3+x3*y2)*(1-d*x2*x3*y2*y3)*y1) * ((1+d*x1*x2*y1*y2)*(1-d*x1*x2*y1*y2) + d*x3*y3*((x1*y2+x2*y1)*(y1*y2+x1*x2))) := by
 unfold On at h1 h2 h3
 grind
theorem y_poly (x1 y1 x2 y2 x3 y3 : Fin n) (h1 : On d x1 y1) (h2 : On d x2 y2) (h3 : On d x3 y3) :
 ((y1*y2+x1*x2)*(1+d*x1*x2*y1*y2)*y3 + x3*((x1*y2+x2*y1)*(1-d*x1*x2*y1*y2))) * ((1+d*x2*x3*y2*y3)*(1-d*x2*x3*y2*y3) - d*x1*y1*((x2*y3+x3*y2)*(y2*y3+x2*x3)))
 = (y1*((y2*y3+x2*x3)*(1+d*x2*x3*y2*y3)) + (x2*y3+x3*y2)*(1-d*x2*x3*y2*y3)*x1) * ((1+d*x1*x2*y1*y2)*(1-d*x1*x2*y1*y2) - d*x3*y3*((x1*y2+x2*y1)*(y1*y2+x1*x2))) := by
 unfold On at h1 h2 h3
 grind
theorem frac_xl (x12 y12 x3 y3 P M Nx Ny X : Fin n) (hx : x12 * P = Nx) (hy : y12 * M = Ny) (h : X * (1 + d * x12 * x3 * y12 * y3) = x12 * y3 + x3 * y12) : X * (P * M + d * x3 * y3 * (Nx * Ny)) = Nx * M * y3 + x3 * (Ny * P) := by
 grind
theorem frac_xr (x23 y23 x1 y1 P M Nx Ny X : Fin n) (hx : x23 * P = Nx) (hy : y23 * M = Ny) (h : X * (1 + d * x1 * x23 * y1 * y23) = x1 * y23 + x23 * y1) : X * (P * M + d * x1 * y1 * (Nx * Ny)) = x1 * (Ny * P) + Nx * M * y1 := by
 grind
theorem frac_yl (x12 y12 x3 y3 P M Nx Ny Y : Fin n) (hx : x12 * P = Nx) (hy : y12 * M = Ny) (h : Y * (1 - d * x12 * x3 * y12 * y3) = y12 * y3 + x12 * x3) : Y * (P * M - d * x3 * y3 * (Nx * Ny)) = Ny * P * y3 + x3 * (Nx * M) := by
 grind
theorem frac_yr (x23 y23 x1 y1 P M Nx Ny Y : Fin n) (hx : x23 * P = Nx) (hy : y23 * M = Ny) (h : Y * (1 - d * x1 * x23 * y1 * y23) = y1 * y23 + x1 * x23) : Y * (P * M - d * x1 * y1 * (Nx * Ny)) = y1 * (Ny * P) + Nx * M * x1 := by
 grind
theorem den_pl (x12 y12 x3 y3 P M Nx Ny : Fin n) (hx : x12 * P = Nx) (hy : y12 * M = Ny) : P * M + d * x3 * y3 * (Nx * Ny) = P * M * (1 + d * x12 * x3 * y12 * y3) := by grind
theorem den_ml (x12 y12 x3 y3 P M Nx Ny : Fin n) (hx : x12 * P = Nx) (hy : y12 * M = Ny) : P * M - d * x3 * y3 * (Nx * Ny) = P * M * (1 - d * x12 * x3 * y12 * y3) := by grind
theorem den_pr (x23 y23 x1 y1 P M Nx Ny : Fin n) (hx : x23 * P = Nx) (hy : y23 * M = Ny) : P * M + d * x1 * y1 * (Nx * Ny) = P * M * (1 + d * x1 * x23 * y1 * y23) := by grind
theorem den_mr (x23 y23 x1 y1 P M Nx Ny : Fin n) (hx : x23 * P = Nx) (hy : y23 * M = Ny) : P * M - d * x1 * y1 * (Nx * Ny) = P * M * (1 - d * x1 * x23 * y1 * y23) := by grind
theorem Fld.mul_ne (F : Fld n d i inv) {a b : Fin n} (ha : a ≠ 0) (hb : b ≠ 0) : a * b ≠ 0 := fun h => (F.dom _ _ h).elim ha hb
theorem Fld.cross (F : Fld n d i inv) (X X' DL DR NL NR : Fin n) (hl : X * DL = NL) (hr : X' * DR = NR) (h : NL * DR = NR * DL) (h1 : DL ≠ 0) (h2 : DR ≠ 0) : X = X' := by
 refine F.cancel _ _ (DL * DR) (F.mul_ne h1 h2) ?_
 grind
theorem Fld.assoc_x (F : Fld n d i inv) (x1 y1 x2 y2 x3 y3 : Fin n) (h1 : On d x1 y1) (h2 : On d x2 y2) (h3 : On d x3 y3) :
 sx inv d (sx inv d x1 y1 x2 y2) (sy inv d x1 y1 x2 y2) x3 y3 = sx inv d x1 y1 (sx inv d x2 y2 x3 y3) (sy inv d x2 y2 x3 y3) := by
 have o12 := F.on_sum x1 y1 x2 y2 h1 h2
 have o23 := F.on_sum x2 y2 x3 y3 h2 h3
 have el := F.sx_eq _ _ x3 y3 o12 h3
 have er := F.sx_eq x1 y1 _ _ h1 o23
 have dl := F.plus_ne _ _ x3 y3 o12 h3
 have dr := F.plus_ne x1 y1 _ _ h1 o23
 have ax := F.sx_eq x1 y1 x2 y2 h1 h2
 have ay := F.sy_eq x1 y1 x2 y2 h1 h2
 have bx := F.sx_eq x2 y2 x3 y3 h2 h3
 have by' := F.sy_eq x2 y2 x3 y3 h2 h3
 have p12 := F.plus_ne x1 y1 x2 y2 h1 h2
 have m12 := F.minus_ne x1 y1 x2 y2 h1 h2
 have p23 := F.plus_ne x2 y2 x3 y3 h2 h3
 have m23 := F.minus_ne x2 y2 x3 y3 h2 h3
 have hq := x_poly x1 y1 x2 y2 x3 y3 h1 h2 h3
 refine F.cross _ _ _ _ _ _ (frac_xl _ _ x3 y3 _ _ _ _ _ ax ay el) (frac_xr _ _ x1 y1 _ _ _ _ _ bx by' er) hq ?_ ?_
 · rw [den_pl _ _ x3 y3 _ _ _ _ ax ay]; exact F.mul_ne (F.mul_ne p12 m12) dl
 · rw [den_pr _ _ x1 y1 _ _ _ _ bx by']; exact F.mul_ne (F.mul_ne p23 m23) dr
theorem Fld.assoc_y (F : Fld n d i inv) (x1 y1 x2 y2 x3 y3 : Fin n) (h1 : On d x1 y1) (h2 : On d x2 y2) (h3 : On d x3 y3) :
 sy inv d (sx inv d x1 y1 x2 y2) (sy inv d x1 y1 x2 y2) x3 y3 = sy inv d x1 y1 (sx inv d x2 y2 x3 y3) (sy inv d x2 y2 x3 y3) := by
 have o12 := F.on_sum x1 y1 x2 y2 h1 h2
 have o23 := F.on_sum x2 y2 x3 y3 h2 h3
 have el := F.sy_eq _ _ x3 y3 o12 h3
 have er := F.sy_eq x1 y1 _ _ h1 o23
 have dl := F.minus_ne _ _ x3 y3 o12 h3
 have dr := F.minus_ne x1 y1 _ _ h1 o23
 have ax := F.sx_eq x1 y1 x2 y2 h1 h2
 have ay := F.sy_eq x1 y1 x2 y2 h1 h2
 have bx := F.sx_eq x2 y2 x3 y3 h2 h3
 have by' := F.sy_eq x2 y2 x3 y3 h2 h3
 have p12 := F.plus_ne x1 y1 x2 y2 h1 h2
 have m12 := F.minus_ne x1 y1 x2 y2 h1 h2
 have p23 := F.plus_ne x2 y2 x3 y3 h2 h3
 have m23 := F.minus_ne x2 y2 x3 y3 h2 h3
 have hq := y_poly x1 y1 x2 y2 x3 y3 h1 h2 h3
 refine F.cross _ _ _ _ _ _ (frac_yl _ _ x3 y3 _ _ _ _ _ ax ay el) (frac_yr _ _ x1 y1 _ _ _ _ _ bx by' er) hq ?_ ?_
 · rw [den_ml _ _ x3 y3 _ _ _ _ ax ay]; exact F.mul_ne (F.mul_ne p12 m12) dl
 · rw [den_mr _ _ x1 y1 _ _ _ _ bx by']; exact F.mul_ne (F.mul_ne p23 m23) dr
def QH (inv : Fin n → Fin n) (d : Fin n) (p q : Fin n × Fin n) : Fin n × Fin n := (sx inv d p.1 p.2 q.1 q.2, sy inv d p.1 p.2 q.1 q.2)
def OnP (d : Fin n) (p : Fin n × Fin n) : Prop := On d p.1 p.2
theorem qbw : OnP d ((0, 1) : Fin n × Fin n) := by unfold OnP On; grind
theorem Fld.on_add (F : Fld n d i inv) (p q : Fin n × Fin n) (hp : OnP d p) (hq : OnP d q) : OnP d (QH inv d p q) := F.on_sum _ _ _ _ hp hq
theorem Fld.add_assoc (F : Fld n d i inv) (p q r : Fin n × Fin n) (hp : OnP d p) (hq : OnP d q) (hr : OnP d r) : QH inv d (QH inv d p q) r = QH inv d p (QH inv d q r) := by
 unfold QH
 exact Prod.ext (F.assoc_x _ _ _ _ _ _ hp hq hr) (F.assoc_y _ _ _ _ _ _ hp hq hr)
theorem qdX (p q : Fin n × Fin n) : QH inv d p q = QH inv d q p := by
 unfold QH sx sy
 have e1 : d * p.1 * q.1 * p.2 * q.2 = d * q.1 * p.1 * q.2 * p.2 := by grind
 have e2 : p.1 * q.2 + q.1 * p.2 = q.1 * p.2 + p.1 * q.2 := by grind
 have e3 : p.2 * q.2 + p.1 * q.1 = q.2 * p.2 + q.1 * p.1 := by grind
 rw [e1, e2, e3]
theorem Fld.add_zero (F : Fld n d i inv) (p : Fin n × Fin n) (hp : OnP d p) : QH inv d p (0, 1) = p := by
 have hx := F.sx_eq p.1 p.2 0 1 hp qbw
 have hy := F.sy_eq p.1 p.2 0 1 hp qbw
 unfold QH
 refine Prod.ext ?_ ?_
 · show sx inv d p.1 p.2 0 1 = p.1; grind
 · show sy inv d p.1 p.2 0 1 = p.2; grind
theorem on_neg (p : Fin n × Fin n) (hp : OnP d p) : OnP d (-p.1, p.2) := by
 unfold OnP On at *
 show p.2 * p.2 - -p.1 * -p.1 = 1 + d * -p.1 * -p.1 * p.2 * p.2
 grind
theorem Fld.add_neg (F : Fld n d i inv) (p : Fin n × Fin n) (hp : OnP d p) : QH inv d p (-p.1, p.2) = (0, 1) := by
 have hn := on_neg p hp
 have hx := F.sx_eq p.1 p.2 (-p.1) p.2 hp hn
 have hy := F.sy_eq p.1 p.2 (-p.1) p.2 hp hn
 have h1 := F.plus_ne p.1 p.2 (-p.1) p.2 hp hn
 have h2 := F.minus_ne p.1 p.2 (-p.1) p.2 hp hn
 have ho : p.2 * p.2 - p.1 * p.1 = 1 + d * p.1 * p.1 * p.2 * p.2 := hp
 unfold QH
 refine Prod.ext ?_ ?_
 · show sx inv d p.1 p.2 (-p.1) p.2 = 0
   exact F.cancel _ _ _ h1 (by grind)
 · show sy inv d p.1 p.2 (-p.1) p.2 = 1
   exact F.cancel _ _ _ h2 (by grind)
def qX (inv : Fin n → Fin n) (d : Fin n) (p : Fin n × Fin n) : Nat → Fin n × Fin n
 | 0 => (0, 1)
 | k + 1 => QH inv d (qX inv d p k) p
theorem Fld.on_mul (F : Fld n d i inv) (p : Fin n × Fin n) (hp : OnP d p) (k : Nat) : OnP d (qX inv d p k) := by
 induction k with
 | zero => exact qbw
 | succ k ih => exact F.on_add _ _ ih hp
theorem Fld.zero_add (F : Fld n d i inv) (p : Fin n × Fin n) (hp : OnP d p) : QH inv d (0, 1) p = p := by rw [qdX, F.add_zero p hp]
theorem Fld.mul_add (F : Fld n d i inv) (p : Fin n × Fin n) (hp : OnP d p) (a b : Nat) : qX inv d p (a + b) = QH inv d (qX inv d p a) (qX inv d p b) := by
 induction b with
 | zero => rw [Nat.add_zero]; exact (F.add_zero _ (F.on_mul p hp a)).symm
 | succ b ih =>
  show QH inv d (qX inv d p (a + b)) p = QH inv d (qX inv d p a) (QH inv d (qX inv d p b) p)
  rw [ih, F.add_assoc _ _ _ (F.on_mul p hp a) (F.on_mul p hp b) hp]
theorem Fld.mul_mul (F : Fld n d i inv) (p : Fin n × Fin n) (hp : OnP d p) (a b : Nat) : qX inv d (qX inv d p a) b = qX inv d p (a * b) := by
 induction b with
 | zero => rfl
 | succ b ih =>
  show QH inv d (qX inv d (qX inv d p a) b) (qX inv d p a) = qX inv d p (a * (b + 1))
  rw [ih, ← F.mul_add p hp, Nat.mul_succ]
end
section
open Go.RowKit Go.Lib
theorem add_step (S D F G x y c r q : Int) (h : S + c * D = F + G) (hr : x + y + c = r + 18446744073709551616 * q) : (S + r * D) + q * (D * 18446744073709551616) = (F + x * D) + (G + y * D) := by
 have : x = r + 18446744073709551616 * q - c - y := by omega
 subst this; grind
theorem sub_step (S D F G x y c r q : Int) (h : S = F - G + c * D) (hr : x - y - c = r - 18446744073709551616 * q) : (S + r * D) = (F + x * D) - (G + y * D) + q * (D * 18446744073709551616) := by
 have : x = r - 18446744073709551616 * q + c + y := by omega
 subst this h; grind
theorem plus_any (a b : Nat) (ha : a < 115792089237316195423570985008687907853269984665640564039457584007913129639936) (hb : b < 115792089237316195423570985008687907853269984665640564039457584007913129639936) (w : World) :
 Calls Try.prog 37 #[.agg (e4 a), .agg (e4 b)] w (ElP ((a + b) % PP) w) := by
 obtain ⟨r, hr⟩ : ∃ r, r = (a + b) % PP := ⟨_, rfl⟩
 rw [← hr]
 have Ha := Lib.hid ha; clear ha
 have Hb := Lib.hid hb; clear hb
 have Hr := Lib.hid hr; clear hr
 go_enter Try.func37, Try.ntmps37
 go_wp2_with fail
 go_loopw [5, 7] (fun s i wr => ∃ (k : Nat) (h : Nat → Int) (c : Int), k ≤ 4 ∧ i = .int .i64 k ∧ s = .int .u64 c ∧ 0 ≤ c ∧ c ≤ 1 ∧ (∀ j, j < k → 0 ≤ h j ∧ h j < 18446744073709551616) ∧ (∀ j, k ≤ j → h j = dg 18446744073709551616 a j) ∧ qr 18446744073709551616 h k + c * 18446744073709551616 ^ k = qr 18446744073709551616 (dg 18446744073709551616 a) k + qr 18446744073709551616 (dg 18446744073709551616 b) k ∧ Has wr w.heap.size (row .u64 4 h) 36 ∧ Has wr (w.heap.size + 1) (e4 b) 36 ∧ HasN wr (w.heap.size + 1 + 1) 4 36 ∧ Below w.heap.size w wr) (fun _ i _ => 4 - (intOf i).toNat)
 case atStart => exact ⟨0, dg 18446744073709551616 a, 0, by omega, rfl, rfl, by omega, by omega, fun j hj => by omega, fun _ _ => rfl, by simp [qr], ((Has.new _ _ _).alloc _).alloc _, (Has.new1 _ _ _ _).alloc _, HasN.new2 _ _ _ _ _ 4 rfl, QD _ _ _ _⟩
 case round =>
  obtain ⟨k, h, c, hk, rfl, rfl, c0, c1, hd, hg, hs, m0, m1, m2, hB⟩ := hrel
  have M0 := Lib.hid m0; clear m0
  have M1 := Lib.hid m1; clear m1
  have M2 := Lib.hid m2; clear m2
  have Hd := Lib.hid hd; clear hd
  have Hg := Lib.hid hg; clear hg
  have Hs := Lib.hid hs; clear hs
  by_cases hlt : k < 4
  · have h1 := M0.out.cell k hlt
    have h2 := M1.out.cell k hlt
    have hfz := M0.out.frozen k
    have x0 := qbL a k
    have x1 := qbh a k
    have y0 := qbL b k
    have y1 := qbh b k
    rw [Hg.out k (Nat.le_refl _)] at h1
    obtain ⟨x, hx⟩ : ∃ x, x = dg 18446744073709551616 a k := ⟨_, rfl⟩
    obtain ⟨y, hy⟩ : ∃ y, y = dg 18446744073709551616 b k := ⟨_, rfl⟩
    rw [← hx] at h1 x0 x1
    rw [← hy] at h2 y0 y1
    have ka := fun w => add64 x y c x0 y0 c0 c1 w
    obtain ⟨s, hss⟩ : ∃ s, s = (x + y + c) % 18446744073709551616 := ⟨_, rfl⟩
    obtain ⟨d, hdd⟩ : ∃ d, d = (x + y + c) / 18446744073709551616 := ⟨_, rfl⟩
    rw [← hss, ← hdd] at ka
    have s0 : 0 ≤ s := by omega
    have s1 : s < 18446744073709551616 := by omega
    have d0 : 0 ≤ d := by omega
    have d1 : d ≤ 1 := by omega
    have hsum : x + y + c = s + 18446744073709551616 * d := by omega
    have Hx := Lib.hid hx; clear hx
    have Hy := Lib.hid hy; clear hy
    have Hsum := Lib.hid hsum; clear hsum
    clear hss hdd
    go_wp2_with fail
    go_region
    go_wp2_with fail
    go_roundw
    case measure => simp [intOf]; omega
    case rel =>
     refine ⟨k + 1, upd h k s, d, by omega, by go_num, rfl, d0, d1, ?_, ?_, ?_, M0.out.set _ _, M1.out.other _ _ (by simp <;> omega), M2.out.other _ _ (by simp <;> omega), by first | exact hB.setCell (Nat.le_refl _) _ | exact (hB.setCell (Nat.le_refl _) _).drew⟩
     · intro j hj
       by_cases e : j = k
       · subst e; rw [qw]; exact ⟨s0, s1⟩
       · rw [qD _ _ _ _ e]; exact Hd.out j (by omega)
     · intro j hj; rw [qD _ _ _ _ (by omega)]; exact Hg.out j (by omega)
     · simp only [qr]
       rw [qU _ _ _ _ _ (Nat.le_refl _), qw, ← Hx.out, ← Hy.out, Int.pow_succ]
       exact add_step _ _ _ _ _ _ _ _ _ Hs.out Hsum.out
  · obtain rfl : k = 4 := by omega
    obtain ⟨A', hA', hrow, hsum⟩ := qcb h Hd.out
    have hs4 := Hs.out
    rw [hsum, qcC a Ha.out, qcC b Hb.out, qb8] at hs4
    have m0 := M0.out
    rw [hrow] at m0
    obtain ⟨o', rfl⟩ := Int.eq_ofNat_of_zero_le c0
    have hf := fun w => fold_any A' o' hA' (by omega) w
    rw [show (A' + o' * 115792089237316195423570985008687907853269984665640564039457584007913129639936) % PP = r by rw [Hr.out]; congr 1; omega] at hf
    have M0 := Lib.hid m0; clear m0
    have Hf := Lib.hid hf; clear hf
    clear hrow hsum hs4 hA'
    go_wp2_with (refine wpList_load_row rfl 36 _ rfl (w.heap.size) rfl 36 (e4 A') (0, 0) _ M0.out Try.underlying36 rfl (by rw [qd]; kernel_rfl) ?_)
    refine (Hf.out _).mono ?_
    rintro e w1 ⟨m, hm, hmr, rfl, b1⟩
    obtain ⟨Z, hZ, mz⟩ := M2.out.call b1
    have HBB := Lib.hid (below_setRow (qh hB b1) (w.heap.size + 1 + 1) (e4 m) (by omega))
    have Mz := Lib.hid mz; clear mz
    have HZ := Lib.hid hZ; clear hZ
    have Hm := Lib.hid hm; clear hm
    have Hmr := Lib.hid hmr; clear hmr
    clear b1
    go_wp2_with (refine wpList_store_row rfl 36 _ _ rfl (w.heap.size + 1 + 1) _ rfl rfl 36 Z Mz.out (by rw [qd]; kernel_rfl) (HZ.out.trans (qd _).symm) (qp _ _ _) ?_)
    exact bodyPost_ret (v := .agg (e4 m)) (results_cell_row (t := 36) (by rfl) _ _ (w.heap.size + 1 + 1) _ _ _ rfl (Mz.out.setRow _) Try.underlying36 rfl (by rw [qd]; kernel_rfl)) rfl ⟨m, Hm.out, Hmr.out, rfl, HBB.out⟩
end
end Go.Proofs.Ytjiagjonlcadiaa
