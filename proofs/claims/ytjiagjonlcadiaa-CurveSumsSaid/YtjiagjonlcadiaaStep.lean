/- Steps of a region, one law an operation: calls by their contracts, in regions that draw and in regions that do not. -/
import Derived.Test.YtjiagjonlcadiaaOrd
import Derived.BigCall
namespace Go
variable {P : Program} {md : Region.Mode} {ops : Array Oper} {Q : Exit → Act → World → Prop} {f : Nat} {S : World → Prop}

/-- function g has a body, and is entered by a call -/
def Enters (P : Program) (g : FuncId) : Prop := ∃ fn : Func, P.funcs[g]? = some fn ∧ (fn.name == "runtime.NumGoroutine") = false ∧ fn.body.isNone = false

theorem run_call_enter {a : Act} {o : Oper} {c : Call} {x : Operand} {g : FuncId} {vl : List Value} (ho : o.op = .call c) (hc : c.callee = .value x) (hx : a.eval x = .func (.func g) #[] #[]) (he : Enters P g)
    (hv : c.args.toList.map a.eval = vl) (w : World) : (execOp a.eval o).run P w = .ok (.enter g vl.toArray) w := by
  obtain ⟨fn, h1, h2, h3⟩ := he
  have h4 : fn.name ≠ "runtime.NumGoroutine" := by simpa using h2
  have h5 : c.args.map a.eval = vl.toArray := by apply Array.ext'; rw [← hv]; simp
  unfold execOp
  simp only [ho, resolve, hc, hx, h5]
  cases hb : fn.body with
  | none => rw [hb] at h3; cases h3
  | some code => simp [Deferred.ofValue, invoke, callFunc, h1, h4, hb]

theorem wp_call_to {a : Act} {o : Oper} {c : Call} {x : Operand} {g : FuncId} {vl : List Value} {w : World} {K : Act → World → Prop} {R : Ending → World → Prop} (ho : o.op = .call c) (hc : c.callee = .value x) (hx : a.eval x = .func (.func g) #[] #[]) (he : Enters P g)
    (hv : c.args.toList.map a.eval = vl) (h : Calls P g vl.toArray w R) (hR : ∀ e w', R e w' → ∃ v, e = .returned v ∧ K (a.put o.dst v) w') : o.wp P a w K Q := by
  unfold Oper.wp
  rw [run_call_enter ho hc hx he hv w, Oper.upon_enter]
  refine h.mono fun e w' hr => ?_
  obtain ⟨v, rfl, hK⟩ := hR e w' hr
  exact hK

/-- operation i, and what comes behind it -/
def BStep (P : Program) (md : Region.Mode) (ops : Array Oper) (Q : Exit → Act → World → Prop) (f : Nat) (S : World → Prop) (n : Nat) (listed : Array Bool) (a : Act) (w : World) (i : Nat) : Prop :=
  wpOp P ops Q i (fun a' w' => (i ≠ f → S w') ∧ wpBut P md ops Q f S n (listed.setIfInBounds i true) a' w') a w
variable {n : Nat} {listed : Array Bool} {a : Act} {w : World}
theorem wpBut_r1 {i : Nat} (hr : Region.ready md ops listed = [i]) (h : BStep P md ops Q f S n listed a w i) : wpBut P md ops Q f S (n + 1) listed a w := by
  refine ⟨fun h0 => (by rw [h0] at hr; cases hr), fun j hj => ?_⟩
  rw [hr] at hj
  obtain rfl : j = i := by simpa using hj
  exact h
theorem wpBut_r2 {i j : Nat} (hr : Region.ready md ops listed = [i, j]) (h1 : BStep P md ops Q f S n listed a w i) (h2 : BStep P md ops Q f S n listed a w j) : wpBut P md ops Q f S (n + 1) listed a w := by
  refine ⟨fun h0 => (by rw [h0] at hr; cases hr), fun k hk => ?_⟩
  rw [hr] at hk
  simp only [List.mem_cons, List.not_mem_nil, or_false] at hk
  rcases hk with rfl | rfl
  · exact h1
  · exact h2
theorem wpBut_r3 {i j l : Nat} (hr : Region.ready md ops listed = [i, j, l]) (h1 : BStep P md ops Q f S n listed a w i) (h2 : BStep P md ops Q f S n listed a w j) (h3 : BStep P md ops Q f S n listed a w l) : wpBut P md ops Q f S (n + 1) listed a w := by
  refine ⟨fun h0 => (by rw [h0] at hr; cases hr), fun k hk => ?_⟩
  rw [hr] at hk
  simp only [List.mem_cons, List.not_mem_nil, or_false] at hk
  rcases hk with rfl | rfl | rfl
  · exact h1
  · exact h2
  · exact h3
theorem wpBut_r4 {i j l m : Nat} (hr : Region.ready md ops listed = [i, j, l, m]) (h1 : BStep P md ops Q f S n listed a w i) (h2 : BStep P md ops Q f S n listed a w j) (h3 : BStep P md ops Q f S n listed a w l) (h4 : BStep P md ops Q f S n listed a w m) : wpBut P md ops Q f S (n + 1) listed a w := by
  refine ⟨fun h0 => (by rw [h0] at hr; cases hr), fun k hk => ?_⟩
  rw [hr] at hk
  simp only [List.mem_cons, List.not_mem_nil, or_false] at hk
  rcases hk with rfl | rfl | rfl | rfl
  · exact h1
  · exact h2
  · exact h3
  · exact h4
theorem bstep_any {i : Nat} {oi : Oper} (hi : ops[i]? = some oi)
    (h : ∀ K : Act → World → Prop, Shut (∀ a' w', (i ≠ f → S w') → wpBut P md ops Q f S n (listed.setIfInBounds i true) a' w' → K a' w') → if Region.wanted oi (yielded ops a.tmps) = true then Oper.wp P oi a w K Q else K (a.put oi.dst undef) w) : BStep P md ops Q f S n listed a w i :=
  wpOp_step hi fun K hK => h K fun a' w' hS hW => hK a' w' ⟨hS, hW⟩
theorem bstep_wp {i : Nat} {oi : Oper} (hi : ops[i]? = some oi) (hw : Region.wanted oi (yielded ops a.tmps) = true)
    (h : Oper.wp P oi a w (fun a' w' => (i ≠ f → S w') ∧ wpBut P md ops Q f S n (listed.setIfInBounds i true) a' w') Q) : BStep P md ops Q f S n listed a w i :=
  wpOp_step hi fun K hK => by rw [if_pos hw]; exact Oper.wp_mono hK h
theorem bstep_call {i : Nat} {oi : Oper} {c : Call} {x : Operand} {g : FuncId} {vl : List Value} {R : Ending → World → Prop} (hi : ops[i]? = some oi) (hw : Region.wanted oi (yielded ops a.tmps) = true) (ho : oi.op = .call c) (hc : c.callee = .value x)
    (hx : a.eval x = .func (.func g) #[] #[]) (he : Enters P g) (hv : c.args.toList.map a.eval = vl) (h : Calls P g vl.toArray w R)
    (hR : ∀ e w', R e w' → ∃ v, e = .returned v ∧ (i ≠ f → S w') ∧ wpBut P md ops Q f S n (listed.setIfInBounds i true) (a.put oi.dst v) w') : BStep P md ops Q f S n listed a w i :=
  bstep_wp hi hw (wp_call_to ho hc hx he hv h hR)
theorem bstep_store {i : Nat} {oi : Oper} (hi : ops[i]? = some oi) (hw : Region.wanted oi (yielded ops a.tmps) = true) (ty : TypeId) (x y : Operand) (ho : oi.op = .store ty x y)
    (g : Nat) (cells : Array Value) (hx : a.eval x = .pointer (some ⟨g, 0, none⟩)) (hy : a.eval y = .agg cells)
    (t : TypeId) (old : Array Value) (hg : w.heap[g]? = some (.cells old t (0, 0))) (hs : (P.info? ty).map (·.size) = some cells.size)
    (hold : old.size = cells.size) (h1 : cells.all (·.oneCell') = true)
    (h : (i ≠ f → S (w.setRow g cells)) ∧ wpBut P md ops Q f S n (listed.setIfInBounds i true) (a.put oi.dst undef) (w.setRow g cells)) : BStep P md ops Q f S n listed a w i :=
  bstep_wp hi hw (wp_store_row ty x y ho g cells hx hy t old hg hs hold h1 h)

/-- a region that draws, begun: the condition: nothing that was there when it began has turned -/
theorem wp_region_go {id : Nat} (f N : Nat) (l0 : Array Bool) (hm : P.follows .mixedOrders = true) (hN : ops.size = N) (hl : Array.replicate N false = l0)
    (h : ∀ W0 : World, W0 = w → wpBut P .any ops Q f (fun w' => Go.RowKit.Below W0.heap.size W0 w') N l0 a W0.drew) : (Code.region id ops true).wp P Q a w :=
  wp_region_but f _ hm (by subst hl; subst hN; exact h w rfl)
theorem wp_region_goS {id : Nat} (S : World → Prop) (f N : Nat) (l0 : Array Bool) (hm : P.follows .mixedOrders = true) (hN : ops.size = N) (hl : Array.replicate N false = l0)
    (h : wpBut P .any ops Q f S N l0 a w.drew) : (Code.region id ops true).wp P Q a w :=
  wp_region_but f S hm (by subst hl; subst hN; exact h)
theorem put_some {oi : Oper} {d : Tmp} (hd : oi.dst = some d) (a : Act) (v : Value) : a.put oi.dst v = { a with tmps := a.tmps.setIfInBounds d v } := by rw [hd]; rfl
theorem put_none {oi : Oper} (hd : oi.dst = none) (a : Act) (v : Value) : a.put oi.dst v = a := by rw [hd]; rfl
theorem go_take (i : Nat) (d : Tmp) (l' : Array Bool) {oi : Oper} {v : Value} (hi : ops[i]? = some oi) (hd : oi.dst = some d) (hl : listed.setIfInBounds i true = l') (hs : Region.noSelect ops = true) (hfr : Region.free md ops listed i = true)
    (hr : (Region.ready md ops listed).contains i = true) (hif : (i == f) = false) (hf : waitsFor md ops f i = true) (hy : YieldsIf P ops S oi v a) (hS : S w)
    (h : wpBut P md ops (NoPanic Q) f S n l' { a with tmps := a.tmps.setIfInBounds d v } w) : wpBut P md ops (NoPanic Q) f S (n + 1) listed a w :=
  wpBut_take hi hs hfr hr hif hf (fun _ _ _ h => h) hy hS (by rw [put_some hd, hl]; exact h)
/-- may number i be taken first -/
def takeOk (md : Region.Mode) (ops : Array Oper) (listed : Array Bool) (f i : Nat) : Bool := Region.noSelect ops && Region.free md ops listed i && (Region.ready md ops listed).contains i && !(i == f) && waitsFor md ops f i
theorem go_take2 {P : Program} {md : Region.Mode} {ops : Array Oper} {Q : Exit → Act → World → Prop} {f : Nat} {S : World → Prop} {n : Nat} {listed : Array Bool} {a : Act} {w : World} (i : Nat) (d : Tmp) (l' : Array Bool) {oi : Oper} {v : Value} (hi : ops[i]? = some oi) (hd : oi.dst = some d) (hl : listed.setIfInBounds i true = l') (hok : takeOk md ops listed f i = true) (hy : YieldsIf P ops S oi v a) (hS : S w)
    (h : wpBut P md ops (NoPanic Q) f S n l' { a with tmps := a.tmps.setIfInBounds d v } w) : wpBut P md ops (NoPanic Q) f S (n + 1) listed a w := by
  unfold takeOk at hok
  simp only [Bool.and_eq_true, Bool.not_eq_true'] at hok
  obtain ⟨⟨⟨⟨h1, h2⟩, h3⟩, h4⟩, h5⟩ := hok
  exact go_take i d l' hi hd hl h1 h2 h3 h4 h5 hy hS h
theorem sI {α : Type} (l : List α) (i : Nat) (a : α) : l.toArray.setIfInBounds i a = (l.set i a).toArray := List.setIfInBounds_toArray l i a
theorem sS {α : Type} (x : α) (l : List α) (i : Nat) (a : α) : (x :: l).set (i + 1) a = x :: l.set i a := List.set_cons_succ
theorem sZ {α : Type} (x : α) (l : List α) (a : α) : (x :: l).set 0 a = a :: l := List.set_cons_zero
theorem below_dr (w : World) : Go.RowKit.Below w.heap.size w w.drew := (Go.RowKit.Below.refl _ _).drew
theorem go_call (i : Nat) (d : Tmp) (l' : Array Bool) {oi : Oper} {c : Call} {x : Operand} {g : FuncId} {vl : List Value} {R : Ending → World → Prop} (hi : ops[i]? = some oi) (hd : oi.dst = some d) (hl : listed.setIfInBounds i true = l') (hw : Region.wanted oi (yielded ops a.tmps) = true) (ho : oi.op = .call c) (hc : c.callee = .value x)
    (hx : a.eval x = .func (.func g) #[] #[]) (he : Enters P g) (hv : c.args.toList.map a.eval = vl) (h : Calls P g vl.toArray w R)
    (hR : ∀ e w', R e w' → ∃ v, e = .returned v ∧ (i ≠ f → S w') ∧ wpBut P md ops Q f S n l' { a with tmps := a.tmps.setIfInBounds d v } w') : BStep P md ops Q f S n listed a w i :=
  bstep_call hi hw ho hc hx he hv h fun e w' hr => let ⟨v, h1, h2, h3⟩ := hR e w' hr; ⟨v, h1, h2, by rw [put_some hd, hl]; exact h3⟩
theorem go_store (i : Nat) (l' : Array Bool) {oi : Oper} (hi : ops[i]? = some oi) (hd : oi.dst = none) (hl : listed.setIfInBounds i true = l') (hw : Region.wanted oi (yielded ops a.tmps) = true) (ty : TypeId) (x y : Operand) (ho : oi.op = .store ty x y)
    (g : Nat) (cells : Array Value) (hx : a.eval x = .pointer (some ⟨g, 0, none⟩)) (hy : a.eval y = .agg cells)
    (t : TypeId) (old : Array Value) (hg : w.heap[g]? = some (.cells old t (0, 0))) (hs : (P.info? ty).map (·.size) = some cells.size)
    (hold : old.size = cells.size) (h1 : cells.all (·.oneCell') = true)
    (h : (i ≠ f → S (w.setRow g cells)) ∧ wpBut P md ops Q f S n l' a (w.setRow g cells)) : BStep P md ops Q f S n listed a w i :=
  bstep_store hi hw ty x y ho g cells hx hy t old hg hs hold h1 ⟨h.1, by rw [put_none hd, hl]; exact h.2⟩
theorem go_any (i : Nat) (l' : Array Bool) {oi : Oper} (hi : ops[i]? = some oi) (hl : listed.setIfInBounds i true = l')
    (h : ∀ K : Act → World → Prop, Shut (∀ a' w', (i ≠ f → S w') → wpBut P md ops Q f S n l' a' w' → K a' w') → if Region.wanted oi (yielded ops a.tmps) = true then Oper.wp P oi a w K Q else K (a.put oi.dst undef) w) : BStep P md ops Q f S n listed a w i :=
  bstep_any hi (by rw [hl]; exact h)
theorem go_alloc (i : Nat) (d : Tmp) (l' : Array Bool) {oi : Oper} (hi : ops[i]? = some oi) (hd : oi.dst = some d) (hl : listed.setIfInBounds i true = l') (hw : Region.wanted oi (yielded ops a.tmps) = true) (ty : TypeId) (ho : oi.op = .alloc ty) (Z : Array Value)
    (hz : ∀ w : World, (Instr.alloc ty true (.tuple #[])).run P w = .ok (.pointer (some ⟨w.heap.size, 0, none⟩)) (w.alloc (.cells Z ty)))
    (h : ∀ w2, w2 = w.alloc (.cells Z ty) → (i ≠ f → S w2) ∧ wpBut P md ops Q f S n l' { a with tmps := a.tmps.setIfInBounds d (.pointer (some ⟨w.heap.size, 0, none⟩)) } w2) : BStep P md ops Q f S n listed a w i := by
  refine bstep_wp hi hw ?_
  unfold Oper.wp execOp
  simp only [ho, Sem.run_bind, Sem.run_pure, hz, Result.andThen_ok]
  have := h _ rfl
  rw [← put_some hd, ← hl] at this
  exact this
theorem go_store2 (i : Nat) (l' : Array Bool) {oi : Oper} (hi : ops[i]? = some oi) (hd : oi.dst = none) (hl : listed.setIfInBounds i true = l') (hw : Region.wanted oi (yielded ops a.tmps) = true) (ty : TypeId) (x y : Operand) (ho : oi.op = .store ty x y)
    (g : Nat) (cells : Array Value) (hx : a.eval x = .pointer (some ⟨g, 0, none⟩)) (hy : a.eval y = .agg cells)
    (t : TypeId) (old : Array Value) (hg : w.heap[g]? = some (.cells old t (0, 0))) (hs : (P.info? ty).map (·.size) = some cells.size)
    (hold : old.size = cells.size) (h1 : cells.all (·.oneCell') = true)
    (h : ∀ w2, w2 = w.setRow g cells → (i ≠ f → S w2) ∧ wpBut P md ops Q f S n l' a w2) : BStep P md ops Q f S n listed a w i :=
  go_store i l' hi hd hl hw ty x y ho g cells hx hy t old hg hs hold h1 (h _ rfl)
/-- a short name for what is left of a region -/
theorem but_name {n0 : Nat} {l0 : Array Bool} {a0 : Act} {w0 : World} (h : ∀ T : Nat → Array Bool → Act → World → Prop, (∀ n l a w, T n l a w ↔ wpBut P md ops Q f S n l a w) → T n0 l0 a0 w0) : wpBut P md ops Q f S n0 l0 a0 w0 :=
  h (fun n l a w => wpBut P md ops Q f S n l a w) (fun _ _ _ _ => Iff.rfl)
/-- the ways through a region meet again: what is known of the blocks that it made and of the numbers that its calls gave -/
theorem wp_region_meet {α : Type} {P : Program} {ops : Array Oper} {Q : Exit → Act → World → Prop} {id : Nat} {b : Bool} {a : Act} {w : World} (C : World → α → World → Prop) (F : Act → α → Act)
    (h : ∀ Q' : Exit → Act → World → Prop, (∀ x w', C w x w' → Q' .normal (F a x) w') → (Code.region id ops b).wp P Q' a w) (hQ : ∀ W0 x w', W0 = w → C W0 x w' → Q .normal (F a x) w') : (Code.region id ops b).wp P Q a w :=
  h Q fun x w' hC => hQ w x w' rfl hC

theorem wpList_load {rest : List Oper} {o : Oper} (hw : Region.wanted o (yielded ops a.tmps) = true) (ty : TypeId) (x : Operand) (ho : o.op = .load ty x) (g : Nat) (hx : a.eval x = .pointer (some ⟨g, 0, none⟩)) (t : TypeId) (cs : Array Value)
    {d : TypeDesc} (hg : w.heap[g]? = some (.cells cs t (0, 0))) (hu : P.underlying ty = some d) (hd : (match d with | .struct _ | .array _ _ => true | _ => false) = true) (hi : (P.info? ty).map (·.size) = some cs.size)
    (e : Tmp) (he : o.dst = some e) (h : wpList P ops Q rest { a with tmps := a.tmps.setIfInBounds e (.agg cs) } w) : wpList P ops Q (o :: rest) a w := by
  have hy := yieldsIf_load_row (ops := ops) (S := fun w' => w' = w) hw ty x ho g hx t cs (fun w' h' => by rw [h']; exact hg) hu hd hi
  rcases hy with ⟨_, h1⟩ | ⟨h1, _⟩
  · refine wpList_step fun K hK => ?_
    rw [if_pos hw]
    unfold Oper.wp
    rw [h1 w rfl, Oper.upon_value]
    refine hK _ _ ?_
    rw [put_some he]; exact h
  · rw [hw] at h1; cases h1
theorem wpList_call {rest : List Oper} {o : Oper} {c : Call} {x : Operand} {g : FuncId} {vl : List Value} {R : Ending → World → Prop} (hw : Region.wanted o (yielded ops a.tmps) = true) (ho : o.op = .call c) (hc : c.callee = .value x)
    (hx : a.eval x = .func (.func g) #[] #[]) (he : Enters P g) (hv : c.args.toList.map a.eval = vl) (h : Calls P g vl.toArray w R)
    (d : Tmp) (hd : o.dst = some d) (hR : ∀ e w', R e w' → ∃ v, e = .returned v ∧ wpList P ops Q rest { a with tmps := a.tmps.setIfInBounds d v } w') : wpList P ops Q (o :: rest) a w :=
  wpList_step fun K hK => by
    rw [if_pos hw]
    exact Oper.wp_mono hK (wp_call_to ho hc hx he hv h fun e w' hr => let ⟨v, h1, h2⟩ := hR e w' hr; ⟨v, h1, by rw [put_some hd]; exact h2⟩)
end Go
namespace Go.Proofs.Ytjiagjonlcadiaa
def z36 : Array Value := (#[.int .u64 0, .int .u64 0, .int .u64 0, .int .u64 0] : Array Value)
theorem al36 (w : World) : (Instr.alloc 36 true (.tuple #[])).run Try.prog w = .ok (.pointer (some ⟨w.heap.size, 0, none⟩)) (w.alloc (.cells z36 36)) := by
  unfold z36
  go_simp
def z40 : Array Value := (#[.int .i64 0, .int .i64 0, .int .i64 0, .int .i64 0, .int .i64 0, .int .i64 0, .int .i64 0, .int .i64 0, .int .i64 0, .int .i64 0, .int .i64 0, .int .i64 0, .int .i64 0, .int .i64 0, .int .i64 0, .int .i64 0, .int .i64 0, .int .i64 0, .int .i64 0, .int .i64 0, .int .i64 0, .int .i64 0] : Array Value)
theorem al40 (w : World) : (Instr.alloc 40 true (.tuple #[])).run Try.prog w = .ok (.pointer (some ⟨w.heap.size, 0, none⟩)) (w.alloc (.cells z40 40)) := by
  unfold z40
  go_simp
def z24 : Array Value := (#[.int .u8 0, .int .u8 0, .int .u8 0, .int .u8 0, .int .u8 0, .int .u8 0, .int .u8 0, .int .u8 0, .int .u8 0, .int .u8 0, .int .u8 0, .int .u8 0, .int .u8 0, .int .u8 0, .int .u8 0, .int .u8 0, .int .u8 0, .int .u8 0, .int .u8 0, .int .u8 0, .int .u8 0, .int .u8 0, .int .u8 0, .int .u8 0, .int .u8 0, .int .u8 0, .int .u8 0, .int .u8 0, .int .u8 0, .int .u8 0, .int .u8 0, .int .u8 0] : Array Value)
theorem al24 (w : World) : (Instr.alloc 24 true (.tuple #[])).run Try.prog w = .ok (.pointer (some ⟨w.heap.size, 0, none⟩)) (w.alloc (.cells z24 24)) := by
  unfold z24
  go_simp
end Go.Proofs.Ytjiagjonlcadiaa
