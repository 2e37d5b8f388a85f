/- Residues modulo the order, in the program and in the document's answer: what each function comes to. -/
import Derived.RangeFuncNested
import Derived.RangeFuncBound
import Derived.RangeFuncCalls
import Derived.RangeFuncLeaves
import Derived.RangeFuncBox
import Derived.RangeFuncFrom
import Derived.OrdersIn
import Derived.TacticsIn
import Derived.LoopIn
import Derived.LoopNIn
import Derived.Shelf.Abstract
import Derived.Shelf.RegionOpen
import Derived.WalkKit
import Derived.OwnWalkIn
import Derived.TacticsInMore
import Derived.Laws.MakeOwn
import Derived.Maps.AppendAt
import Derived.Laws.CopyOwn
import Derived.Deep.DeepCutAuto
import Derived.Deep.CutBlock
import Derived.Test.YtjiagjonlcadiaaRb1
section
namespace Go
variable {P : Program} {ops : Array Oper} {Q : Exit → Act → World → Prop} {S : World → Prop} {a : Act} {w : World}

theorem yieldsIf_build {o : Oper} (hw : Region.wanted o (yielded ops a.tmps) = true) (t : TypeId) (parts : Array (Nat × Operand)) (ho : o.op = .build t parts) (pl : List (Nat × Value)) (hv : parts.toList.map (fun p => (p.1, a.eval p.2)) = pl) (cells : Array Value) (hc : P.built t pl = some cells) : YieldsIf P ops S o (.agg cells) a := by
  refine Or.inl ⟨hw, fun w _ => ?_⟩
  have hc2 : P.built t (parts.map fun (i, x) => (i, a.eval x)).toList = some cells := by
    rw [Array.toList_map, ← hc, ← hv]
  unfold execOp
  simp only [ho, Sem.run_bind, run_build w t _ cells hc2, Result.andThen_ok]
  rfl
theorem wpList_built {rest : List Oper} {o : Oper} (hw : Region.wanted o (yielded ops a.tmps) = true) (t : TypeId) (parts : Array (Nat × Operand)) (ho : o.op = .build t parts) (pl : List (Nat × Value)) (hv : parts.toList.map (fun p => (p.1, a.eval p.2)) = pl) (cells : Array Value) (hc : P.built t pl = some cells)
    (d : Tmp) (hd : o.dst = some d) (h : wpList P ops Q rest { a with tmps := a.tmps.setIfInBounds d (.agg cells) } w) : wpList P ops Q (o :: rest) a w := by
  rcases yieldsIf_build (ops := ops) (S := fun _ => True) hw t parts ho pl hv cells hc with ⟨_, h1⟩ | ⟨h1, _⟩
  · refine wpList_step fun K hK => ?_
    rw [if_pos hw]
    unfold Oper.wp
    rw [h1 w trivial, Oper.upon_value]
    refine hK _ _ ?_
    rw [put_some hd]; exact h
  · rw [hw] at h1; cases h1
theorem wpList_alloc {rest : List Oper} {o : Oper} (hw : Region.wanted o (yielded ops a.tmps) = true) (ty : TypeId) (ho : o.op = .alloc ty) (Z : Array Value)
    (hz : ∀ w : World, (Instr.alloc ty true (.tuple #[])).run P w = .ok (.pointer (some ⟨w.heap.size, 0, none⟩)) (w.alloc (.cells Z ty))) (d : Tmp) (hd : o.dst = some d)
    (h : ∀ w2, w2 = w.alloc (.cells Z ty) → wpList P ops Q rest { a with tmps := a.tmps.setIfInBounds d (.pointer (some ⟨w.heap.size, 0, none⟩)) } w2) : wpList P ops Q (o :: rest) a w := by
  refine wpList_step fun K hK => ?_
  rw [if_pos hw]
  unfold Oper.wp execOp
  simp only [ho, Sem.run_bind, Sem.run_pure, hz, Result.andThen_ok]
  refine hK _ _ ?_
  rw [put_some hd]; exact h _ rfl
theorem wpList_store2 {rest : List Oper} {o : Oper} (hw : Region.wanted o (yielded ops a.tmps) = true) (ty : TypeId) (x y : Operand) (ho : o.op = .store ty x y) (hd : o.dst = none)
    (g : Nat) (cells : Array Value) (hx : a.eval x = .pointer (some ⟨g, 0, none⟩)) (hy : a.eval y = .agg cells)
    (t : TypeId) (old : Array Value) (hg : w.heap[g]? = some (.cells old t (0, 0))) (hi : (P.info? ty).map (·.size) = some cells.size)
    (hold : old.size = cells.size) (h1 : cells.all (·.oneCell') = true)
    (h : ∀ w2, w2 = w.setRow g cells → wpList P ops Q rest a w2) : wpList P ops Q (o :: rest) a w := by
  refine wpList_step fun K hK => ?_
  rw [if_pos hw]
  refine wp_store_row ty x y ho g cells hx hy t old hg hi hold h1 ?_
  refine hK _ _ ?_
  rw [put_none hd]; exact h _ rfl
theorem wpList_loadm {rest : List Oper} {o : Oper} (hw : Region.wanted o (yielded ops a.tmps) = true) (ty : TypeId) (x : Operand) (ho : o.op = .load ty x) (b i : Nat) (hx : a.eval x = .pointer (some ⟨b, i, none⟩)) (cs : List Value) (c : Array Value) (hcc : c = cs.toArray)
    (hr : w.rangeAt b i cs) (d : TypeDesc) (hu : P.underlying ty = some d) (hd : d.isRow = true) (hi : (P.info? ty).map (·.size) = some cs.length)
    (e : Tmp) (he : o.dst = some e) (h : wpList P ops Q rest { a with tmps := a.tmps.setIfInBounds e (.agg c) } w) : wpList P ops Q (o :: rest) a w := by
  have hy := yieldsIf_load_mid (ops := ops) (S := fun w' => w' = w) hw ty x ho b i hx cs d (fun w' h' => by rw [h']; exact hr) hu hd hi
  rcases hy with ⟨_, h1⟩ | ⟨h1, _⟩
  · refine wpList_step fun K hK => ?_
    rw [if_pos hw]
    unfold Oper.wp
    rw [h1 w rfl, Oper.upon_value]
    refine hK _ _ ?_
    rw [put_some he, ← hcc]; exact h
  · rw [hw] at h1; cases h1
theorem yieldsIf_loadm {o : Oper} (hw : Region.wanted o (yielded ops a.tmps) = true) (ty : TypeId) (x : Operand) (ho : o.op = .load ty x) (b i : Nat) (hx : a.eval x = .pointer (some ⟨b, i, none⟩)) (cs : List Value) (c : Array Value) (hcc : c = cs.toArray)
    (hS : ∀ w, S w → w.rangeAt b i cs) (d : TypeDesc) (hu : P.underlying ty = some d) (hd : d.isRow = true) (hi : (P.info? ty).map (·.size) = some cs.length) : YieldsIf P ops S o (.agg c) a := by
  rw [hcc]; exact yieldsIf_load_mid hw ty x ho b i hx cs d hS hu hd hi
end Go
namespace Go.Proofs.Ytjiagjonlcadiaa
open Go.RowKit Go.Lib

/-- four cells of a number -/
def e4l (n : Nat) : List Value := rowl .u64 4 (dg 18446744073709551616 n)
theorem e4_l (n : Nat) : e4 n = (e4l n).toArray := rfl
theorem e4l_len (n : Nat) : (e4l n).length = 4 := rowl_len _ _ _
/-- the program's point -/
def pt (x y z : Nat) (b : Bool) : Array Value := (e4l x ++ e4l y ++ e4l z ++ [Value.bool b]).toArray
theorem pt_size (x y z : Nat) (b : Bool) : (pt x y z b).size = 13 := by simp [pt, e4l_len]
theorem pt_one (x y z : Nat) (b : Bool) : (pt x y z b).all (·.oneCell') = true := by
  simp [pt, e4l, rowl, List.all_eq_true, Value.oneCell']
/-- the reference's point -/
def r22l (n : Nat) : List Value := rowl .i64 22 (dg 4096 n)
theorem r22_l (n : Nat) : r22 n = (r22l n).toArray := rfl
theorem r22l_len (n : Nat) : (r22l n).length = 22 := rowl_len _ _ _
def rp (x y z t : Nat) : Array Value := (r22l x ++ r22l y ++ r22l z ++ r22l t).toArray
theorem rp_size (x y z t : Nat) : (rp x y z t).size = 88 := by simp [rp, r22l_len]
theorem rp_one (x y z t : Nat) : (rp x y z t).all (·.oneCell') = true := by
  simp [rp, r22l, rowl, List.all_eq_true, Value.oneCell']

theorem range_of {w : World} {b : Nat} {t : TypeId} {l1 l2 l3 : List Value} (h : Has w b (l1 ++ l2 ++ l3).toArray t) : w.rangeAt b l1.length l2 := fun j v hv => by
  have hj : j < l2.length := (List.getElem?_eq_some_iff.1 hv).1
  rw [h.cellAt]
  simp only [List.getElem?_toArray]
  rw [List.append_assoc, List.getElem?_append_right (by omega), List.getElem?_append_left (by omega), show l1.length + j - l1.length = j by omega, hv]
theorem pt_x {w : World} {b : Nat} {t : TypeId} {x y z : Nat} {o : Bool} (h : Has w b (pt x y z o) t) : w.rangeAt b 0 (e4l x) := by
  have h2 : Has w b ([] ++ e4l x ++ (e4l y ++ e4l z ++ [Value.bool o])).toArray t := by simpa [pt] using h
  exact range_of h2
theorem pt_y {w : World} {b : Nat} {t : TypeId} {x y z : Nat} {o : Bool} (h : Has w b (pt x y z o) t) : w.rangeAt b 4 (e4l y) := by
  have h2 : Has w b (e4l x ++ e4l y ++ (e4l z ++ [Value.bool o])).toArray t := by simpa [pt] using h
  have := range_of h2
  rwa [e4l_len] at this
theorem pt_z {w : World} {b : Nat} {t : TypeId} {x y z : Nat} {o : Bool} (h : Has w b (pt x y z o) t) : w.rangeAt b 8 (e4l z) := by
  have h2 : Has w b ((e4l x ++ e4l y) ++ e4l z ++ [Value.bool o]).toArray t := by simpa [pt] using h
  have := range_of h2
  rwa [List.length_append, e4l_len, e4l_len] at this
theorem pt_w {w : World} {b : Nat} {t : TypeId} {x y z : Nat} {o : Bool} (h : Has w b (pt x y z o) t) : w.cell? ⟨b, 12, none⟩ = some (.bool o) := by
  rw [h.cellAt]; simp [pt, e4l_len]
theorem rp_x {w : World} {b : Nat} {t : TypeId} {x y z s : Nat} (h : Has w b (rp x y z s) t) : w.rangeAt b 0 (r22l x) := by
  have h2 : Has w b ([] ++ r22l x ++ (r22l y ++ r22l z ++ r22l s)).toArray t := by simpa [rp] using h
  exact range_of h2
theorem rp_y {w : World} {b : Nat} {t : TypeId} {x y z s : Nat} (h : Has w b (rp x y z s) t) : w.rangeAt b 22 (r22l y) := by
  have h2 : Has w b (r22l x ++ r22l y ++ (r22l z ++ r22l s)).toArray t := by simpa [rp] using h
  have := range_of h2
  rwa [r22l_len] at this
theorem rp_z {w : World} {b : Nat} {t : TypeId} {x y z s : Nat} (h : Has w b (rp x y z s) t) : w.rangeAt b 44 (r22l z) := by
  have h2 : Has w b ((r22l x ++ r22l y) ++ r22l z ++ r22l s).toArray t := by simpa [rp] using h
  have := range_of h2
  rwa [List.length_append, r22l_len, r22l_len] at this
theorem rp_t {w : World} {b : Nat} {t : TypeId} {x y z s : Nat} (h : Has w b (rp x y z s) t) : w.rangeAt b 66 (r22l s) := by
  have h2 : Has w b ((r22l x ++ r22l y ++ r22l z) ++ r22l s ++ []).toArray t := by simpa [rp] using h
  have := range_of h2
  rwa [List.length_append, List.length_append, r22l_len, r22l_len, r22l_len] at this

theorem bd36z : Try.prog.built 36 [] = some (e4 0) := by kernel_rfl
theorem bd40z : Try.prog.built 40 [] = some (r22 0) := by kernel_rfl
theorem bd53z : Try.prog.built 53 [] = some (pt 0 0 0 false) := by kernel_rfl
theorem bd53 (x y z : Nat) (b : Bool) : Try.prog.built 53 [(0, .agg (e4 x)), (1, .agg (e4 y)), (2, .agg (e4 z)), (3, .bool b)] = some (pt x y z b) := by kernel_rfl
theorem bd57 (x y z t : Nat) : Try.prog.built 57 [(0, .agg (r22 x)), (1, .agg (r22 y)), (2, .agg (r22 z)), (3, .agg (r22 t))] = some (rp x y z t) := by kernel_rfl
theorem bd57o (y z : Nat) : Try.prog.built 57 [(1, .agg (r22 y)), (2, .agg (r22 z))] = some (rp 0 y z 0) := by kernel_rfl
def z53 : Array Value := (#[.int .u64 0, .int .u64 0, .int .u64 0, .int .u64 0, .int .u64 0, .int .u64 0, .int .u64 0, .int .u64 0, .int .u64 0, .int .u64 0, .int .u64 0, .int .u64 0, .bool false] : Array Value)
theorem al53 (w : World) : (Instr.alloc 53 true (.tuple #[])).run Try.prog w = .ok (.pointer (some ⟨w.heap.size, 0, none⟩)) (w.alloc (.cells z53 53)) := by
  unfold z53
  go_simp
theorem al57 (w : World) : (Instr.alloc 57 true (.tuple #[])).run Try.prog w = .ok (.pointer (some ⟨w.heap.size, 0, none⟩)) (w.alloc (.cells Try.zeroCells57 57)) := by
  go_simp
theorem al4 (w : World) : (Instr.alloc 4 true (.tuple #[])).run Try.prog w = .ok (.pointer (some ⟨w.heap.size, 0, none⟩)) (w.alloc (.cells #[.bool false] 4)) := by
  go_simp
theorem z57_size : Try.zeroCells57.size = 88 := by kernel_rfl
/-- three results in cells -/
theorem results_cell3 {P : Program} {fn : Func} {p q r : Tmp} {ty : TypeId} (h : fn.results = #[.cell p ty, .cell q ty, .cell r ty]) (tmps : Array Value) (w : World) (g1 g2 g3 : Nat) (t1 t2 t3 : TypeId) (c1 c2 c3 : Array Value) (d : TypeDesc)
    (hp : tmps.getD p undef = .pointer (some ⟨g1, 0, none⟩)) (hq : tmps.getD q undef = .pointer (some ⟨g2, 0, none⟩)) (hr : tmps.getD r undef = .pointer (some ⟨g3, 0, none⟩))
    (h1 : w.heap[g1]? = some (.cells c1 t1 (0, 0))) (h2 : w.heap[g2]? = some (.cells c2 t2 (0, 0))) (h3 : w.heap[g3]? = some (.cells c3 t3 (0, 0)))
    (hu : P.underlying ty = some d) (hd : (match d with | .struct _ | .array _ _ => true | _ => false) = true) (i1 : (P.info? ty).map (·.size) = some c1.size) (i2 : (P.info? ty).map (·.size) = some c2.size) (i3 : (P.info? ty).map (·.size) = some c3.size) :
    (results fn tmps).run P w = .ok (.tuple #[.agg c1, .agg c2, .agg c3]) w := by
  have hp' : tmps[p]?.getD undef = .pointer (some ⟨g1, 0, none⟩) := by simpa using hp
  have hq' : tmps[q]?.getD undef = .pointer (some ⟨g2, 0, none⟩) := by simpa using hq
  have hr' : tmps[r]?.getD undef = .pointer (some ⟨g3, 0, none⟩) := by simpa using hr
  simp [results, h, hp', hq', hr', asAddr, run_loadVar_row w g1 t1 ty c1 _ d h1 hu hd i1, run_loadVar_row w g2 t2 ty c2 _ d h2 hu hd i2, run_loadVar_row w g3 t3 ty c3 _ d h3 hu hd i3]
end Go.Proofs.Ytjiagjonlcadiaa
end
section
namespace Go
open Go.RowKit
variable {P : Program} {ops : Array Oper} {Q : Exit → Act → World → Prop} {l n : Nat} {a : Act} {w : World}

/-- no operation puts a call off -/
def noDefer (ops : Array Oper) : Bool := ops.all fun o => match o.op with | .defer _ => false | _ => true
theorem noDefer_at (h : noDefer ops = true) (i : Nat) (o : Oper) (hi : ops[i]? = some o) : ∀ c, o.op ≠ .defer c := fun c hc => by
  have h1 := Array.all_eq_true_iff_forall_mem.1 h o (Array.mem_of_getElem? hi)
  rw [hc] at h1
  cases h1

theorem oper_in_round {o : Oper} (hd : ∀ c, o.op ≠ .defer c) {K : Act → World → Prop} (h : o.wp P a w K Q) : o.wpIn (Fence.wide.inRound l) n P a w K Q := by
  refine ⟨fun _ _ => trivial, ?_⟩
  show o.uponIn _ n P a K Q ((o.semAt (some l) a.eval).run P w)
  rw [Oper.semAt_some l _ o hd]
  unfold Oper.wp at h
  generalize (execOp a.eval o).run P w = r at *
  cases r with
  | ok x w' =>
    cases x with
    | value v => exact h
    | skip => exact h
    | defer d => exact h
    | enter f args => exact ⟨fun e => (by cases e), CallsIn.inRound l (callsIn_wide.2 h)⟩
    | row row args => exact ⟨fun e => (by cases e), fun c cs _ => let ⟨v, w2, hr, hs⟩ := h c cs; ⟨v, w2, hr, stepsIn_wide.2 hs⟩⟩
    | _ => exact h.elim
  | halt x w' => cases x <;> exact h

theorem op_in_round (hd : noDefer ops = true) (hQ : ¬ LetsOut Q) {i : Nat} {K : Act → World → Prop} (h : wpOp P ops Q i K a w) : wpOpIn (Fence.wide.inRound l) n P ops Q i K a w := by
  unfold wpOp at h
  unfold wpOpIn
  cases hi : ops[i]? with
  | none => simp only [hi] at h ⊢; exact h
  | some o =>
    simp only [hi] at h ⊢
    split
    · rename_i hw
      rw [if_pos hw] at h
      rcases h with h | ⟨_, h⟩
      · exact oper_in_round (noDefer_at hd i o hi) h
      · exact (hQ h).elim
    · rename_i hw
      rw [if_neg hw] at h
      exact ⟨fun _ _ => trivial, h⟩

theorem any_in_round (hd : noDefer ops = true) (hQ : ¬ LetsOut Q) {md : Region.Mode} : ∀ (f : Nat) (listed : Array Bool) (a : Act) (w : World), wpAny P md ops Q f listed a w → wpAnyIn (Fence.wide.inRound l) n P md ops Q f listed a w := by
  intro f
  induction f with
  | zero => intro _ _ _ h; exact h
  | succ f ih => intro listed a w h; exact ⟨h.1, fun j hj => op_in_round hd hQ (wpOp_mono (fun a' w' h' => ih _ a' w' h') (h.2 j hj))⟩

theorem list_in_round (hd : noDefer ops = true) (hQ : ¬ LetsOut Q) : ∀ (rest : List Oper) (_ : ∀ o ∈ rest, o ∈ ops) (a : Act) (w : World), wpList P ops Q rest a w → wpListIn (Fence.wide.inRound l) n P ops Q rest a w := by
  intro rest
  induction rest with
  | nil => intro _ _ _ h; exact h
  | cons o rest ih =>
    intro hr a w h
    unfold wpList at h
    unfold wpListIn
    split
    · rename_i hw
      rw [if_pos hw] at h
      rcases h with h | ⟨_, h⟩
      · obtain ⟨i, hi⟩ := Array.getElem?_of_mem (hr o (by simp))
        exact oper_in_round (noDefer_at hd i o hi) (Oper.wp_mono (fun a' w' h' => ih (fun o' ho' => hr o' (by simp [ho'])) a' w' h') h)
      · exact (hQ h).elim
    · rename_i hw
      rw [if_neg hw] at h
      exact ⟨fun _ _ => trivial, ih (fun o' ho' => hr o' (by simp [ho'])) _ _ h⟩

/-- a region that does not draw, in a round -/
theorem wpr_lit {l0 : List Oper} (hd : noDefer l0.toArray = true) (h : wpList P l0.toArray Q l0 a w) (hQ : ¬ LetsOut Q := by exact fun ⟨_, _, h⟩ => h) : wpListIn (Fence.wide.inRound l) n P l0.toArray Q l0 a w :=
  list_in_round hd hQ l0 (fun o ho => by simpa using ho) a w h
theorem wpr_noPanic {F : Fence} {id : Nat} {b : Bool} (h : (Code.region id ops b).wpIn F n P (NoPanic Q) a w) : (Code.region id ops b).wpIn F n P Q a w := wpIn_mono h NoPanic.imp
theorem wpr_goS {id : Nat} (S : World → Prop) (f N : Nat) (l0 : Array Bool) (hm : (P.follows .mixedOrders && noDefer ops) = true) (hN : ops.size = N) (hl : Array.replicate N false = l0)
    (h : wpBut P .any ops Q f S N l0 a w.drew) (hQ : ¬ LetsOut Q := by exact fun ⟨_, _, h⟩ => h) : (Code.region id ops true).wpIn (Fence.wide.inRound l) n P Q a w := by
  obtain ⟨h1, h2⟩ := (Bool.and_eq_true _ _).mp hm
  refine wpIn_region_any h1 (any_in_round h2 hQ _ _ _ _ (wpAny_of_but (f := f) (S := S) _ _ _ _ ?_))
  subst hl; subst hN; exact h

/-- nothing but block B has turned -/
structure But (B : Nat) (A W : World) : Prop where
  os : W.os = A.os
  tape : W.tape = A.tape
  output : W.output = A.output
  size : A.heap.size ≤ W.heap.size
  block : ∀ k, k < A.heap.size → k ≠ B → W.heap[k]? = A.heap[k]?
theorem But.refl (B : Nat) (W : World) : But B W W := ⟨rfl, rfl, rfl, Nat.le_refl _, fun _ _ _ => rfl⟩
theorem But.call {B : Nat} {A W W' : World} (h : But B A W) (hb : Below W.heap.size W W') : But B A W' :=
  ⟨hb.os.trans h.os, hb.tape.trans h.tape, hb.output.trans h.output, Nat.le_trans h.size hb.size, fun k hk hn => (hb.block k (Nat.lt_of_lt_of_le hk h.size)).trans (h.block k hk hn)⟩
theorem But.drew {B : Nat} {A W : World} (h : But B A W) : But B A W.drew := ⟨h.os, h.tape, h.output, h.size, h.block⟩
theorem But.setRow_other {B : Nat} {A W : World} (h : But B A W) (g : Nat) (c : Array Value) (hg : g = B) : But B A (W.setRow g c) := by
  have h2 := Go.Proofs.Ytjiagjonlcadiaa.below_setRow (Below.refl 0 W) g c (Nat.zero_le _)
  exact ⟨h2.os.trans h.os, h2.tape.trans h.tape, h2.output.trans h.output, Nat.le_trans h.size h2.size, fun k hk hn => (Go.setRow_other W g k c (by omega)).trans (h.block k hk hn)⟩
theorem But.others {B : Nat} {A W : World} (h : But B A W) {c : Array Value} {t : TypeId} (hB : Go.Proofs.Ytjiagjonlcadiaa.Has A B c t) : KeepsOthers A W :=
  ⟨h.size, fun k o hk ho => (h.block k (Array.getElem?_eq_some_iff.1 hk).1 (fun e => by
    subst e
    have e2 : some o = some (.cells c t (0, 0)) := hk.symm.trans hB
    obtain rfl := Option.some.inj e2
    cases ho)).trans hk⟩

/-- two blocks lie as they lay -/
def Keep2 (b1 b2 : Nat) (A W : World) : Prop := W.heap[b1]? = A.heap[b1]? ∧ W.heap[b2]? = A.heap[b2]?
theorem keep2_t {b1 b2 : Nat} {A B C : World} (h : Keep2 b1 b2 A B) (k : Keep2 b1 b2 B C) : Keep2 b1 b2 A C := ⟨k.1.trans h.1, k.2.trans h.2⟩
theorem keep2_b {b1 b2 : Nat} {w : World} (h1 : b1 < w.heap.size) (h2 : b2 < w.heap.size) (W : World) (l : Nat) (o o' : Obj) (hl : w.heap.size ≤ l) (_ : W.heap[l]? = some o) (_ : o.isCells = false) (_ : o.isWalk = false) : Keep2 b1 b2 W (W.putObj l o') := by
  have h (k : Nat) (hk : k ≠ l) : (W.putObj l o').heap[k]? = W.heap[k]? := by
    show (W.heap.setIfInBounds l o')[k]? = _
    rw [Array.getElem?_setIfInBounds_ne (fun e => hk e.symm)]
  exact ⟨h b1 (by omega), h b2 (by omega)⟩
theorem But.keep2 {B b1 b2 : Nat} {A W : World} (h : But B A W) (n1 : b1 ≠ B) (n2 : b2 ≠ B) (l1 : b1 < A.heap.size) (l2 : b2 < A.heap.size) : Keep2 b1 b2 A W := ⟨h.block b1 l1 n1, h.block b2 l2 n2⟩

/-- calls of a function value with bound arguments -/
theorem run_call_bound {o : Oper} {c : Call} {x : Operand} {g : FuncId} {bs : Array Value} {vl : List Value} (ho : o.op = .call c) (hc : c.callee = .value x) (hx : a.eval x = .func (.func g) bs #[]) (he : Enters P g)
    (hv : c.args.toList.map a.eval = vl) (w : World) : (execOp a.eval o).run P w = .ok (.enter g (bs ++ vl.toArray)) w := by
  obtain ⟨fn, h1, h2, h3⟩ := he
  have h4 : fn.name ≠ "runtime.NumGoroutine" := by simpa using h2
  have h5 : c.args.map a.eval = vl.toArray := by apply Array.ext'; rw [← hv]; simp
  unfold execOp
  simp only [ho, resolve, hc, hx, h5]
  cases hb : fn.body with
  | none => rw [hb] at h3; cases h3
  | some code => simp [Deferred.ofValue, invoke, callFunc, h1, h4, hb]
theorem wp_call_bound {o : Oper} {c : Call} {x : Operand} {g : FuncId} {bs : Array Value} {vl : List Value} {K : Act → World → Prop} {R : Ending → World → Prop} (ho : o.op = .call c) (hc : c.callee = .value x) (hx : a.eval x = .func (.func g) bs #[]) (he : Enters P g)
    (hv : c.args.toList.map a.eval = vl) (h : Calls P g (bs ++ vl.toArray) w R) (hR : ∀ e w', R e w' → ∃ v, e = .returned v ∧ K (a.put o.dst v) w') : o.wp P a w K Q := by
  unfold Oper.wp
  rw [run_call_bound ho hc hx he hv w, Oper.upon_enter]
  refine h.mono fun e w' hr => ?_
  obtain ⟨v, rfl, hK⟩ := hR e w' hr
  exact hK
theorem go_callB {md : Region.Mode} {f N : Nat} {S : World → Prop} {listed : Array Bool} (i : Nat) (d : Tmp) (l' : Array Bool) {oi : Oper} {c : Call} {x : Operand} {g : FuncId} {bs : Array Value} {vl : List Value} {R : Ending → World → Prop} (hi : ops[i]? = some oi) (hd : oi.dst = some d) (hl : listed.setIfInBounds i true = l') (hw : Region.wanted oi (yielded ops a.tmps) = true) (ho : oi.op = .call c) (hc : c.callee = .value x)
    (hx : a.eval x = .func (.func g) bs #[]) (he : Enters P g) (hv : c.args.toList.map a.eval = vl) (h : Calls P g (bs ++ vl.toArray) w R)
    (hR : ∀ e w', R e w' → ∃ v, e = .returned v ∧ (i ≠ f → S w') ∧ wpBut P md ops Q f S N l' { a with tmps := a.tmps.setIfInBounds d v } w') : BStep P md ops Q f S N listed a w i :=
  bstep_wp hi hw (wp_call_bound ho hc hx he hv h fun e w' hr => let ⟨v, h1, h2, h3⟩ := hR e w' hr; ⟨v, h1, h2, by rw [put_some hd, hl]; exact h3⟩)
theorem wpList_callB {rest : List Oper} {o : Oper} {c : Call} {x : Operand} {g : FuncId} {bs : Array Value} {vl : List Value} {R : Ending → World → Prop} (hw : Region.wanted o (yielded ops a.tmps) = true) (ho : o.op = .call c) (hc : c.callee = .value x)
    (hx : a.eval x = .func (.func g) bs #[]) (he : Enters P g) (hv : c.args.toList.map a.eval = vl) (h : Calls P g (bs ++ vl.toArray) w R)
    (d : Tmp) (hd : o.dst = some d) (hR : ∀ e w', R e w' → ∃ v, e = .returned v ∧ wpList P ops Q rest { a with tmps := a.tmps.setIfInBounds d v } w') : wpList P ops Q (o :: rest) a w :=
  wpList_step fun K hK => by
    rw [if_pos hw]
    exact Oper.wp_mono hK (wp_call_bound ho hc hx he hv h fun e w' hr => let ⟨v, h1, h2⟩ := hR e w' hr; ⟨v, h1, by rw [put_some hd]; exact h2⟩)

/-- stores into the middle of a block -/
theorem go_storem {md : Region.Mode} {f N : Nat} {S : World → Prop} {listed : Array Bool} (i : Nat) (l' : Array Bool) {oi : Oper} (hi : ops[i]? = some oi) (hd : oi.dst = none) (hl : listed.setIfInBounds i true = l') (hw : Region.wanted oi (yielded ops a.tmps) = true) (ty : TypeId) (x y : Operand) (ho : oi.op = .store ty x y)
    (b o : Nat) (cells : Array Value) (hx : a.eval x = .pointer (some ⟨b, o, none⟩)) (hy : a.eval y = .agg cells) (ht : w.there b o cells.size) (hs : (P.info? ty).map (·.size) = some cells.size) (h1 : cells.all (·.oneCell') = true)
    (h : ∀ w2, w2 = w.setCells b o cells.toList → (i ≠ f → S w2) ∧ wpBut P md ops Q f S N l' a w2) : BStep P md ops Q f S N listed a w i :=
  bstep_wp hi hw (wp_store_mid ty x y ho b o cells hx hy ht hs h1 (by have := h _ rfl; rw [put_none hd, hl]; exact this))

/-- a range over a function, walked with the wide fence; x's own slots are set by asg -/
theorem range_wide {α : Type} {g : Operand} {ps : Array Tmp} {assign body : Code} {n : Nat} (h1 : 1 ≤ n) {gf : Nat} {lb : Array Value} (hg : a.eval g = .func (.func gf) #[] lb) (eg : ∀ args w, (callFunc gf args).run P w = .ok (.enter gf args) w)
    {encs : α → Array Value} {Kp : World → World → Prop} {S Sp : List α → Prop} {N : Nat} {w0 : World} (hseq : SeqStopsK Fence.wide (n - 1) P gf lb encs Kp S Sp N w0)
    (hKt : ∀ {A B C : World}, Kp A B → Kp B C → Kp A C) (hKb : ∀ (W : World) (l : Nat) (o o' : Obj), w.heap.size ≤ l → W.heap[l]? = some o → o.isCells = false → o.isWalk = false → Kp W (W.putObj l o')) (hb0 : Below w0.heap.size w0 w) (hps : ∀ x, (encs x).size = ps.size)
    (I : List α → World → Prop) (hI : OwnFrom w.heap.size I) (h0 : I [] w) (asg : α → Array Value → Array Value)
    (hassign : ∀ (l : Nat) (x : α) (W : World) (K : Act → World → Prop), K { tmps := asg x ((ps.zip (encs x)).foldl (fun t (p, v) => t.setIfInBounds p v) a.tmps), defers := [] } W →
      assign.wpIn (Fence.wide.inRound l) (n - 1 - 1) P (Exit.then K (fun _ _ _ => False)) { tmps := (ps.zip (encs x)).foldl (fun t (p, v) => t.setIfInBounds p v) a.tmps, defers := [] } W)
    (hbody : ∀ (l : Nat) (pre : List α) (x : α) (W : World), I pre W → pre.length < N → body.wpIn (Fence.wide.inRound l) (n - 1 - 1) P (ownPostK Kp I (fun _ _ _ => False) (pre ++ [x]) W) { tmps := asg x ((ps.zip (encs x)).foldl (fun t (p, v) => t.setIfInBounds p v) a.tmps), defers := [] } W)
    (hdone : ∀ (D : Nat) (xs : List α) (W : World), w.heap.size ≤ D → S xs → I xs W → W.heap[D]? = some (.deferred (some [])) → Q .normal { a with defers := { target := .collected D, args := #[] } :: a.defers } W) :
    (Code.rangeFunc g ps assign body).wp P Q a w := by
  refine (wpIn_wide (n := n)).1 (wpIn_rangeFunc_ownF rfl h1 hg trivial eg hseq hKt hKb hb0 hps I (fun _ _ _ => False) hI (fun c s W W' row hs => hs.elim) h0 (fun x => { tmps := asg x ((ps.zip (encs x)).foldl (fun t (p, v) => t.setIfInBounds p v) a.tmps), defers := [] }) hassign hbody hdone (fun D c pre W _ _ h => h.elim))
end Go
namespace Go.Proofs.Ytjiagjonlcadiaa
open Go.RowKit
theorem But.grown {B : Nat} {A W W' : World} {r : Option Nat} (h : But B A W) (hg : W.grownBy W' r) (hr : ∀ k, r = some k → A.heap.size ≤ k) : But B A W' :=
  ⟨hg.os.trans h.os, hg.tape.trans h.tape, hg.output.trans h.output, Nat.le_trans h.size hg.size, fun k hk hn => (hg.block k (Nat.lt_of_lt_of_le hk h.size) (fun e => by have := hr k e.symm; omega)).trans (h.block k hk hn)⟩
theorem But.trans {B : Nat} {A W W' : World} (h : But B A W) (h2 : But B W W') : But B A W' :=
  ⟨h2.os.trans h.os, h2.tape.trans h.tape, h2.output.trans h.output, Nat.le_trans h.size h2.size, fun k hk hn => (h2.block k (Nat.lt_of_lt_of_le hk h.size) hn).trans (h.block k hk hn)⟩
/-- what the caller of a range knows: its own block, and that all others lie as they lay -/
def OwnI {β : Type} (A : World) (B : Nat) (t : TypeId) (C : β → Array Value → Prop) (s : β) (W : World) : Prop := ∃ c, C s c ∧ Has W B c t ∧ But B A W
theorem ownI_from {β : Type} {A : World} {B : Nat} {t : TypeId} {C : β → Array Value → Prop} (hB : B < A.heap.size) : OwnFrom A.heap.size (OwnI A B t C) :=
  fun _ W W' _ ⟨c, hc, hh, hb⟩ hg hr => ⟨c, hc, (hg.block B (Nat.lt_of_lt_of_le hB hb.size) (fun e => by have := (hr B e.symm).1; omega)).trans hh, But.grown hb hg (fun k e => (hr k e).1)⟩
theorem Has.but {A W : World} {B b : Nat} {c : Array Value} {t : TypeId} (h : Has A b c t) (hb : But B A W) (hn : b ≠ B) : Has W b c t := (hb.block b h.lt hn).trans h
theorem HasN.but {A W : World} {B b n : Nat} {t : TypeId} (h : HasN A b n t) (hb : But B A W) (hn : b ≠ B) : HasN W b n t := let ⟨c, hc, h⟩ := h; ⟨c, hc, h.but hb hn⟩
theorem below_but {A W w : World} {B n0 : Nat} (h : Below n0 w A) (hb : But B A W) (h0 : n0 ≤ B) (h1 : n0 ≤ A.heap.size) : Below n0 w W :=
  h.trans ⟨hb.os, hb.tape, hb.output, hb.size, fun k hk => hb.block k (by omega) (by omega)⟩
end Go.Proofs.Ytjiagjonlcadiaa
namespace Go.Proofs.Ytjiagjonlcadiaa
open Go.RowKit Go.Shelf

attribute [local go_sem] Oper.semAt_some

/-- what has come when k rounds are over -/
def upto {α : Type} (f : Nat → α) (k : Nat) : List α := (List.range k).map f
theorem upto_succ {α : Type} (f : Nat → α) (k : Nat) : upto f (k + 1) = upto f k ++ [f k] := by simp [upto, List.range_succ]
theorem upto_length {α : Type} (f : Nat → α) (k : Nat) : (upto f k).length = k := by simp [upto]
/-- from the last on -/
def bkf (len : Nat) (k : Nat) : Nat := len - 1 - k

set_option maxRecDepth 100000 in
set_option maxHeartbeats 2000000 in
theorem bkw1_in (F : Fence) (n : Nat) (h7 : F.fn 111) (hro : F.round = none) (hn : 1 ≤ n) (l Bs b len cap : Nat) (g : Nat → Int) (hreach : len ≤ 1000000) (J Jx : List Nat → World → Prop)
    (hY : ∀ (pre : List Nat) (x : Nat) (W : World), J pre W → pre.length < len → YieldAt F (n - 1) Try.prog l #[.int .i64 (x : Int), .int .u8 (g x)] W fun e W' =>
      (e = .returned (.bool true) ∧ J (pre ++ [x]) W' ∧ Keep2 Bs b W W') ∨ (e = .returned (.bool false) ∧ Jx (pre ++ [x]) W'))
    (W : World) (hBs : W.cell? ⟨Bs, 0, none⟩ = some (.slice (some ⟨b, 0, none⟩) len cap)) (hc : ∀ j, j < len → W.cell? ⟨b, j, none⟩ = some (.int .u8 (g j))) (h0 : J [] W) :
    CallsIn F n Try.prog 111 #[.func (.yield l) #[] #[], .pointer (some ⟨Bs, 0, none⟩)] W fun e W' => (∃ v, e = .returned v) ∧
      ((∃ ys, ys = upto (bkf len) len ∧ J ys W') ∨ (∃ pre, (∃ k, k ≤ len ∧ pre = upto (bkf len) k) ∧ Jx pre W')) := by
  refine callsIn_of_wp Try.func111 rfl h7 ?_ hro
  simp only [Try.ntmps111, List.size_toArray, List.length_cons, List.length_nil, Nat.reduceAdd, Nat.reduceSub, Array.replicate_succ, Array.replicate_zero, List.push_toArray, List.append_toArray, List.nil_append, List.cons_append]
  gi_wp2
  gi_loopw [3] (fun i wr => ∃ m : Nat, m ≤ len ∧ i = .int .i64 ((m : Int) - 1) ∧ J (upto (bkf len) (len - m)) wr ∧ Keep2 Bs b W wr)
    (fun i _ => (intOf i + 1).toNat)
  case atStart => exact ⟨len, Nat.le_refl _, rfl, by rw [Nat.sub_self]; exact h0, rfl, rfl⟩
  case round =>
    obtain ⟨m, hm, rfl, hJs, hnx⟩ := hrel
    have hBs' := (World.cell?_of_block (w := W) (w' := wr) (a := ⟨Bs, 0, none⟩) hnx.1).trans hBs
    rcases Nat.eq_zero_or_pos m with h0m | h0m
    · subst h0m
      gi_wp2
      go_end0
      exact ⟨⟨_, rfl⟩, .inl ⟨_, rfl, hJs⟩⟩
    · obtain ⟨j, rfl⟩ : ∃ j, m = j + 1 := ⟨m - 1, by omega⟩
      rw [show ((j + 1 : Nat) : Int) - 1 = (j : Int) by omega]
      have hj : j < len := by omega
      have hcx : wr.cell? ⟨b, j, none⟩ = some (.int .u8 (g j)) := (World.cell?_of_block (w := W) (w' := wr) (a := ⟨b, j, none⟩) hnx.2).trans (hc j hj)
      obtain ⟨fn, tmps, assign, body, hy, hR⟩ := hY _ j wr hJs (by rw [upto_length]; omega)
      have hlast : upto (bkf len) (len - (j + 1)) ++ [j] = upto (bkf len) (len - j) := by
        rw [show len - j = len - (j + 1) + 1 by omega, upto_succ]
        unfold bkf
        rw [show len - 1 - (len - (j + 1)) = j by omega]
      rw [hlast] at hR
      gi_wp2
      refine hR.mono ?_
      rintro e W3 (⟨rfl, hJ3, hk3⟩ | ⟨rfl, hJx3⟩)
      · gi_wp2
        go_roundw
        case rel => exact ⟨j, by omega, rfl, hJ3, keep2_t hnx hk3⟩
        case measure => simp [intOf]
      · gi_wp2
        refine bodyPost_ret (results_none rfl _ _ _) rfl ?_
        exact ⟨⟨_, rfl⟩, .inr ⟨_, ⟨len - j, by omega, rfl⟩, hJx3⟩⟩

set_option maxRecDepth 100000 in
set_option maxHeartbeats 1000000 in
theorem bkw_any (a : Option Addr) (len cap : Nat) (w : World) :
    Calls Try.prog 94 #[.slice a len cap] w fun e w' => e = .returned (.func (.func 111) #[] #[.pointer (some ⟨w.heap.size, 0, none⟩)]) ∧ w' = w.alloc (.cells #[.slice a len cap] 22) := by
  refine (callsIn_wide (n := 0)).1 (callsIn_of_wp Try.func94 rfl trivial ?_ rfl)
  simp only [Try.ntmps94, List.size_toArray, List.length_cons, List.length_nil, Nat.reduceAdd, Nat.reduceSub, Array.replicate_succ, Array.replicate_zero, List.push_toArray, List.append_toArray, List.nil_append, List.cons_append]
  gi_wp2
  go_ret
  exact ⟨rfl, rfl⟩

theorem bkw_stops (n : Nat) (hn : 1 ≤ n) (Bs b len cap : Nat) (g : Nat → Int) (hreach : len ≤ 1000000) (w : World) (hbs : Bs < w.heap.size) (hb : b < w.heap.size)
    (hBs : w.cell? ⟨Bs, 0, none⟩ = some (.slice (some ⟨b, 0, none⟩) len cap)) (hc : ∀ j, j < len → w.cell? ⟨b, j, none⟩ = some (.int .u8 (g j))) :
    SeqStopsK Fence.wide n Try.prog 111 #[.pointer (some ⟨Bs, 0, none⟩)] (fun x : Nat => #[Value.int .i64 (x : Int), Value.int .u8 (g x)]) (Keep2 Bs b) (fun ys => ys = upto (bkf len) len) (fun pre => ∃ k, k ≤ len ∧ pre = upto (bkf len) k) len w := fun l J Jx W hW _ _ hY h0 =>
  bkw1_in Fence.wide n trivial rfl hn l Bs b len cap g hreach J Jx hY W ((hW.cell (p := ⟨Bs, 0, none⟩) hbs).trans hBs) (fun j hj => (hW.cell (p := ⟨b, j, none⟩) hb).trans (hc j hj)) h0
end Go.Proofs.Ytjiagjonlcadiaa
end
section
namespace Go
open Go.RowKit
variable {P : Program} {ops : Array Oper} {Q : Exit → Act → World → Prop} {S : World → Prop} {a : Act} {w : World}

theorem run_loadAt_one (w : World) (b : Nat) (ty : TypeId) (v : Value) (d : TypeDesc) (hc : w.cell? ⟨b, 0, none⟩ = some v) (hu : P.underlying ty = some d) (hd : d.isRow = false) : (Instr.loadAt ty (.pointer (some ⟨b, 0, none⟩))).run P w = .ok v w := by
  have hag : (isAgg ty).run P w = .ok false w := by
    cases d <;> first | (simp [isAgg, run_underlying hu]; done) | (simp [TypeDesc.isRow] at hd)
  simp [Instr.loadAt, Instr.sureAddr, loadVar, hag, hc]
theorem yieldsIf_load1 {o : Oper} (hw : Region.wanted o (yielded ops a.tmps) = true) (ty : TypeId) (x : Operand) (ho : o.op = .load ty x) (b : Nat) (hx : a.eval x = .pointer (some ⟨b, 0, none⟩)) (v : Value) (d : TypeDesc)
    (hS : ∀ w, S w → w.cell? ⟨b, 0, none⟩ = some v) (hu : P.underlying ty = some d) (hd : d.isRow = false) : YieldsIf P ops S o v a := by
  refine Or.inl ⟨hw, fun w hSw => ?_⟩
  unfold execOp
  simp only [ho, hx, Sem.run_bind, run_loadAt_one w b ty v d (hS w hSw) hu hd, Result.andThen_ok]
  rfl
theorem wpList_load1 {rest : List Oper} {o : Oper} (hw : Region.wanted o (yielded ops a.tmps) = true) (ty : TypeId) (x : Operand) (ho : o.op = .load ty x) (b : Nat) (hx : a.eval x = .pointer (some ⟨b, 0, none⟩)) (v : Value) (d : TypeDesc)
    (hS : w.cell? ⟨b, 0, none⟩ = some v) (hu : P.underlying ty = some d) (hd : d.isRow = false) (e : Tmp) (he : o.dst = some e) (h : wpList P ops Q rest { a with tmps := a.tmps.setIfInBounds e v } w) : wpList P ops Q (o :: rest) a w := by
  rcases yieldsIf_load1 (ops := ops) (S := fun w' => w' = w) hw ty x ho b hx v d (fun w' h' => by rw [h']; exact hS) hu hd with ⟨_, h1⟩ | ⟨h1, _⟩
  · refine wpList_step fun K hK => ?_
    rw [if_pos hw]
    unfold Oper.wp
    rw [h1 w rfl, Oper.upon_value]
    refine hK _ _ ?_
    rw [put_some he]; exact h
  · rw [hw] at h1; cases h1
/-- an index into a slice of rows -/
theorem yieldsIf_index {o : Oper} (hw : Region.wanted o (yielded ops a.tmps) = true) (t : TypeId) (x y : Operand) (ho : o.op = .indexAddr t x y) (b len cap : Nat) (hx : a.eval x = .slice (some ⟨b, 0, none⟩) len cap) (kd : IntKind) (i : Int) (hy : a.eval y = .int kd i) (j : Nat) (hj : i = (j : Int)) (hlt : j < len)
    (e : TypeId) (hu : P.underlying t = some (.slice e)) (inf : TypeInfo) (hi : P.info? e = some inf) (n : Nat) (hn : inf.size = n) (off : Nat) (hoff : off = j * n) : YieldsIf P ops S o (.pointer (some ⟨b, off, none⟩)) a := by
  refine Or.inl ⟨hw, fun w _ => ?_⟩
  subst hj; subst hn; subst hoff
  have hlt' : (j : Int) < (len : Int) := by omega
  unfold execOp
  simp [ho, hx, hy, Instr.indexAt, asIntOf, run_underlying hu, sizeOf, typeInfo, hi, hlt, Addr.add_mid]
theorem wpList_index {rest : List Oper} {o : Oper} (hw : Region.wanted o (yielded ops a.tmps) = true) (t : TypeId) (x y : Operand) (ho : o.op = .indexAddr t x y) (b len cap : Nat) (hx : a.eval x = .slice (some ⟨b, 0, none⟩) len cap) (kd : IntKind) (i : Int) (hy : a.eval y = .int kd i) (j : Nat) (hj : i = (j : Int)) (hlt : j < len)
    (e : TypeId) (hu : P.underlying t = some (.slice e)) (inf : TypeInfo) (hi : P.info? e = some inf) (n : Nat) (hn : inf.size = n) (off : Nat) (hoff : off = j * n) (d : Tmp) (hd : o.dst = some d) (h : wpList P ops Q rest { a with tmps := a.tmps.setIfInBounds d (.pointer (some ⟨b, off, none⟩)) } w) : wpList P ops Q (o :: rest) a w := by
  rcases yieldsIf_index (ops := ops) (S := fun w' => w' = w) hw t x y ho b len cap hx kd i hy j hj hlt e hu inf hi n hn off hoff with ⟨_, h1⟩ | ⟨h1, _⟩
  · refine wpList_step fun K hK => ?_
    rw [if_pos hw]
    unfold Oper.wp
    rw [h1 w rfl, Oper.upon_value]
    refine hK _ _ ?_
    rw [put_some hd]; exact h
  · rw [hw] at h1; cases h1
theorem wpList_make {rest : List Oper} {o : Oper} (hw : Region.wanted o (yielded ops a.tmps) = true) (t : TypeId) (x y : Operand) (ho : o.op = .makeSlice t x y) (v1 v2 : Value) (hx : a.eval x = v1) (hy : a.eval y = v2) (v : Value) (w2 : World) (hr : (Instr.makeSlice t v1 v2).run P w = .ok v w2)
    (d : Tmp) (hd : o.dst = some d) (h : wpList P ops Q rest { a with tmps := a.tmps.setIfInBounds d v } w2) : wpList P ops Q (o :: rest) a w := by
  refine wpList_step fun K hK => ?_
  rw [if_pos hw]
  unfold Oper.wp execOp
  simp only [ho, hx, hy, Sem.run_bind, hr, Result.andThen_ok]
  refine hK _ _ ?_
  rw [put_some hd]; exact h
theorem wpList_store1 {rest : List Oper} {o : Oper} (hw : Region.wanted o (yielded ops a.tmps) = true) (ty : TypeId) (x y : Operand) (ho : o.op = .store ty x y) (hd : o.dst = none) (b : Nat) (v : Value) (hx : a.eval x = .pointer (some ⟨b, 0, none⟩)) (hy : a.eval y = v)
    (old : Value) (t : TypeId) (hg : w.heap[b]? = some (.cells #[old] t (0, 0))) (hs : (P.info? ty).map (·.size) = some 1) (hv : v.oneCell' = true) (hc : v.cells = #[v]) (h : ∀ w2, w2 = w.setCell ⟨b, 0, none⟩ v → wpList P ops Q rest a w2) : wpList P ops Q (o :: rest) a w := by
  have h1 : Go.Proofs.Ytjiagjonlcadiaa.Has w b #[old] t := hg
  have h2 := run_storeCells_cells (P := P) b 0 [v] 0 w (fun j hj => by
    obtain rfl : j = 0 := by simpa using hj
    rw [h1.cellAt]; rfl) (fun j _ => h1.frozen _) (by simpa using hv)
  cases hi : P.info? ty with
  | none => rw [hi] at hs; cases hs
  | some i =>
    rw [hi] at hs
    have hs : i.size = 1 := Option.some.inj hs
    have hsv : (storeVar ty ⟨b, 0, none⟩ v).run P w = .ok () (w.setCell ⟨b, 0, none⟩ v) := by
      simp only [Nat.add_zero] at h2
      have h3 : (storeCells ⟨b, 0, none⟩ [v]).run P w = .ok () (w.setCell ⟨b, 0, none⟩ v) := h2
      simp [storeVar, sizeOf, typeInfo, hi, hc, hs, h3]
    refine wpList_step fun K hK => ?_
    rw [if_pos hw]
    unfold Oper.wp execOp
    simp only [ho, hx, hy, Instr.storeAt, Instr.sureAddr, Sem.run_bind, Sem.run_pure, Result.andThen_ok, hsv]
    refine hK _ _ ?_
    rw [put_none hd]; exact h _ rfl
end Go
namespace Go.Proofs.Ytjiagjonlcadiaa
open Go.RowKit Go.Lib

theorem HasN.setAt {w : World} {b n : Nat} {t : TypeId} (h : HasN w b n t) (o : Nat) (v : Value) : HasN (w.setCell ⟨b, o, none⟩ v) b n t := let ⟨c, hn, h⟩ := h; ⟨_, by rw [Array.size_setIfInBounds]; exact hn, h.setAt o v⟩
theorem HasN.setCells {b n : Nat} {t : TypeId} : ∀ (vs : List Value) (o : Nat) (w : World), HasN w b n t → HasN (w.setCells b o vs) b n t
  | [], _, _, h => h
  | v :: r, o, _, h => HasN.setCells r (o + 1) _ (h.setAt o v)
theorem below_setCells2 {B b : Nat} {a : World} (hb : B ≤ b) : ∀ (vs : List Value) (o : Nat) (w : World), Below B a w → Below B a (w.setCells b o vs)
  | [], _, _, h => h
  | v :: r, o, _, h => below_setCells2 hb r (o + 1) _ (h.setCell (by exact hb) v)

theorem Has.one {w : World} {b : Nat} {v : Value} {t : TypeId} (h : Has w b #[v] t) : w.cell? ⟨b, 0, none⟩ = some v := by rw [h.cellAt]; rfl
end Go.Proofs.Ytjiagjonlcadiaa
end
section
namespace Go
open Go.RowKit
variable {P : Program}

/-- B is A but for blocks from lo to hi -/
structure Zone (lo hi : Nat) (A B : World) : Prop where
  os : B.os = A.os
  tape : B.tape = A.tape
  output : B.output = A.output
  size : B.heap.size = A.heap.size
  block : ∀ k, ¬ (lo ≤ k ∧ k < hi) → B.heap[k]? = A.heap[k]?
theorem Zone.put {lo hi : Nat} (A : World) (l : Nat) (o : Obj) (h1 : lo ≤ l) (h2 : l < hi) : Zone lo hi A (A.putObj l o) :=
  ⟨rfl, rfl, rfl, World.putObj_size, fun k hk => World.putObj_heap_other (fun e => hk (by omega))⟩
theorem Zone.wide {lo lo' hi : Nat} {A B : World} (h : Zone lo hi A B) (hl : lo' ≤ lo) : Zone lo' hi A B :=
  ⟨h.os, h.tape, h.output, h.size, fun k hk => h.block k (fun ⟨a, b⟩ => hk ⟨by omega, b⟩)⟩
theorem Zone.below {lo hi n0 : Nat} {w A B : World} (hb : Below n0 w A) (h : Zone lo hi A B) (hl : n0 ≤ lo) : Below n0 w B :=
  ⟨h.os.trans hb.os, h.tape.trans hb.tape, h.output.trans hb.output, by rw [h.size]; exact hb.size, fun k hk => (h.block k (fun ⟨a, _⟩ => by omega)).trans (hb.block k hk)⟩

/-- what a function that is ranged over promises: N rounds, one behind the other; each finds what it left, and leaves the blocks 'prot' and those that the function has laid before its first round -/
def SeqZ (P : Program) (g : Nat) (lb : Array Value) (encs : Nat → Array Value) (N : Nat) (prot : Nat → Prop) (w : World) : Prop :=
  ∀ (n l : Nat) (J : Nat → Nat → World → Prop) (W : World), 1 ≤ n → Below w.heap.size w W →
    (∀ W1, Below W.heap.size W W1 → J W1.heap.size 0 W1) →
    (∀ s k A B, J s k A → Zone W.heap.size s A B → J s k B) →
    (∀ m s k W1, W.heap.size ≤ s → s ≤ W1.heap.size → k < N → J s k W1 → YieldAt Fence.wide m P l (encs k) W1 fun e W' =>
      e = .returned (.bool true) ∧ J s (k + 1) W' ∧ W1.heap.size ≤ W'.heap.size ∧ ∀ j, (W.heap.size ≤ j ∧ j < s) ∨ prot j → W'.heap[j]? = W1.heap[j]?) →
    CallsIn Fence.wide n P g (#[.func (.yield l) #[] #[]] ++ lb) W fun e W' => (∃ v, e = .returned v) ∧ ∃ s, W.heap.size ≤ s ∧ s ≤ W'.heap.size ∧ J s N W'

/-- how a round's body is left -/
def ZPost (I : Nat → Nat → World → Prop) (lo s k : Nat) (prot : Nat → Prop) (W : World) : Exit → Act → World → Prop
  | .normal, _, W' => I s k W' ∧ W.heap.size ≤ W'.heap.size ∧ ∀ j, (lo ≤ j ∧ j < s) ∨ prot j → W'.heap[j]? = W.heap[j]?
  | _, _, _ => False

theorem range_z {g : Operand} {ps : Array Tmp} {assign body : Code} {Q : Exit → Act → World → Prop} {a : Act} {w : World} {gf : Nat} {lb : Array Value} (hg : a.eval g = .func (.func gf) #[] lb) (eg : ∀ args w, (callFunc gf args).run P w = .ok (.enter gf args) w)
    {encs : Nat → Array Value} {N : Nat} {prot : Nat → Prop} {w0 : World} (hseq : SeqZ P gf lb encs N prot w0) (hb0 : Below w0.heap.size w0 w) (hps : ∀ k, (encs k).size = ps.size) (hprot : ∀ j, prot j → j < w.heap.size)
    (I : Nat → Nat → World → Prop) (h0 : ∀ W1, Below w.heap.size w W1 → w.heap.size + 2 ≤ W1.heap.size → I W1.heap.size 0 W1) (hz : ∀ s k A B, I s k A → Zone w.heap.size s A B → I s k B)
    (asg : Nat → Array Value → Array Value)
    (hassign : ∀ (m l k : Nat) (W : World) (K : Act → World → Prop), K { tmps := asg k ((ps.zip (encs k)).foldl (fun t (p, v) => t.setIfInBounds p v) a.tmps), defers := [] } W →
      assign.wpIn (Fence.wide.inRound l) m P (Exit.then K (fun _ _ _ => False)) { tmps := (ps.zip (encs k)).foldl (fun t (p, v) => t.setIfInBounds p v) a.tmps, defers := [] } W)
    (hbody : ∀ (m l s k : Nat) (W : World), w.heap.size + 2 ≤ s → s ≤ W.heap.size → k < N → I s k W →
      body.wpIn (Fence.wide.inRound l) m P (ZPost I w.heap.size s (k + 1) prot W) { tmps := asg k ((ps.zip (encs k)).foldl (fun t (p, v) => t.setIfInBounds p v) a.tmps), defers := [] } W)
    (hdone : ∀ (s : Nat) (W : World), w.heap.size + 2 ≤ s → s ≤ W.heap.size → I s N W → W.heap[w.heap.size]? = some (.deferred (some [])) → Q .normal { a with defers := { target := .collected w.heap.size, args := #[] } :: a.defers } W) :
    (Code.rangeFunc g ps assign body).wp P Q a w := by
  refine (wpIn_wide (n := 3)).1 (wpIn_rangeFunc fun fn hfn => ?_)
  obtain ⟨rec, hrec⟩ : ∃ rec : LoopState → Option Code → Loop, rec = fun st pe => { state := st, pending := pe, fn, tmps := a.tmps, params := ps, assign, body, defers := w.heap.size } := ⟨_, rfl⟩
  obtain ⟨W1, hW1⟩ : ∃ W1, (w.alloc (.deferred (some []))).alloc (.loop (rec .ready none)) = W1 := ⟨_, rfl⟩
  have hs1 : W1.heap.size = w.heap.size + 2 := by rw [← hW1]; simp
  have hL1 : W1.heap[w.heap.size + 1]? = some (.loop (rec .ready none)) := by
    have := World.alloc_heap_new (w.alloc (.deferred (some []))) (.loop (rec .ready none))
    rw [World.size_alloc] at this
    rw [← hW1]; exact this
  have hb1 : Below w.heap.size w W1 := by rw [← hW1]; exact ((Below.refl _ w).alloc (Nat.le_refl _) _).alloc (by simp) _
  have hK1 : W1.heap[w.heap.size]? = some (.deferred (some [])) := by
    rw [← hW1]; exact (Below.heap_alloc _ _ _ (by simp)).trans (World.alloc_heap_new w _)
  refine ⟨w.heap.size + 1, [{ target := .collected w.heap.size, args := #[] }], W1, { target := .fn (.func gf) lb, args := #[.func (.yield (w.heap.size + 1)) #[] #[]] }, W1, gf,
    #[.func (.yield (w.heap.size + 1)) #[] #[]] ++ lb, W1, ?_, ?_, fun _ _ => trivial, ?_, fun h => (by cases h), ?_⟩
  · rw [← hW1, hrec]; exact run_enterLoop_outer _ _ _ _ _
  · simp only [resolve, hg]
    simp [go_sem]
  · simp [invoke, go_sem, eg]
  · refine (hseq (3 - 1) (w.heap.size + 1)
      (fun s k W => I s k W ∧ w.heap.size + 2 ≤ s ∧ W.heap[w.heap.size + 1]? = some (.loop (rec .ready none)) ∧ W.heap[w.heap.size]? = some (.deferred (some []))) W1 (by decide) (hb0.trans (hb1.mono hb0.size)) ?_ ?_ ?_).mono ?_
    · intro W2 hb2
      have hz2 := hb2.size
      exact ⟨h0 W2 (hb1.trans (hb2.mono hb1.size)) (by omega), by omega, (hb2.block _ (by omega)).trans hL1, (hb2.block _ (by omega)).trans hK1⟩
    · rintro s k A B ⟨hi, hs, hl, hd⟩ hq
      exact ⟨hz s k A B hi (hq.wide (by omega)), hs, (hq.block _ (by omega)).trans hl, (hq.block _ (by omega)).trans hd⟩
    · rintro m s k W _ hs2 hk ⟨hi, hs, hl, hd⟩
      have hlt : w.heap.size + 1 < W.heap.size := (Array.getElem?_eq_some_iff.1 hl).1
      have hy := run_yield (P := P) (args := encs k) hl (by rw [hrec]; exact hps k)
      rw [hrec] at hy
      refine ⟨fn, _, assign, body, hy, roundIn_of_wpIn hfn (hassign m _ k W _ ?_)⟩
      clear hy
      refine ⟨_, run_beginRound hl (by rw [hrec]), ?_⟩
      have hl2 : (W.putObj (w.heap.size + 1) (.loop { rec .ready none with state := .busy })).heap[w.heap.size + 1]? = some (.loop { rec .ready none with state := .busy }) := World.putObj_heap_same hlt
      have hd2 : (W.putObj (w.heap.size + 1) (.loop { rec .ready none with state := .busy })).heap[w.heap.size]? = some (.deferred (some [])) := (World.putObj_heap_other (by omega)).trans hd
      have ho2 : ∀ j, j ≠ w.heap.size + 1 → (W.putObj (w.heap.size + 1) (.loop { rec .ready none with state := .busy })).heap[j]? = W.heap[j]? := fun j hj => World.putObj_heap_other hj
      have hi2 := hz s k _ _ hi (Zone.put W (w.heap.size + 1) (.loop { rec .ready none with state := .busy }) (by omega) (by omega))
      have hsz2 : (W.putObj (w.heap.size + 1) (.loop { rec .ready none with state := .busy })).heap.size = W.heap.size := World.putObj_size
      generalize W.putObj (w.heap.size + 1) (.loop { rec .ready none with state := .busy }) = W2 at *
      refine wpIn_mono (hbody m (w.heap.size + 1) s k W2 hs (by omega) hk hi2) ?_
      rintro e a3 W3 hp
      cases e with
      | normal =>
        obtain ⟨hi3, hsz3, hk3⟩ := hp
        have hl3 := (hk3 (w.heap.size + 1) (.inl ⟨by omega, by omega⟩)).trans hl2
        have hd3 := (hk3 w.heap.size (.inl ⟨by omega, by omega⟩)).trans hd2
        have hr := run_endRound (P := P) none hl3
        refine ⟨_, _, hr, rfl, ⟨hz _ _ _ _ hi3 (Zone.put W3 _ _ (by omega) (by omega)), hs, ?_, (World.putObj_heap_other (by omega)).trans hd3⟩, by rw [World.putObj_size]; omega, fun j hj => ?_⟩
        · subst hrec
          exact World.putObj_heap_same (Array.getElem?_eq_some_iff.1 hl3).1
        · have hj1 : j ≠ w.heap.size + 1 := by
            rcases hj with ⟨h1, _⟩ | h1
            · omega
            · have := hprot j h1; omega
          have hj2 : (w.heap.size ≤ j ∧ j < s) ∨ prot j := hj.imp (fun ⟨h1, h2⟩ => ⟨by omega, h2⟩) id
          exact (World.putObj_heap_other hj1).trans ((hk3 j hj2).trans (ho2 j hj1))
      | ret => exact hp.elim
      | exit id => exact hp.elim
      | goto t => exact hp.elim
      | panic ch => exact hp.elim
      | outgrown => exact hp.elim
    · rintro e W2 ⟨⟨v, rfl⟩, s, hs, hs', hi, hs2, hl, hd⟩
      refine ⟨none, _, by have := run_endLoop (P := P) hl (by rw [hrec]; simp); rw [hrec] at this; exact this, hdone s _ hs2 (by rw [World.putObj_size]; exact hs') (hz _ _ _ _ hi (Zone.put W2 _ _ (by omega) (by omega))) ((World.putObj_heap_other (by omega)).trans hd)⟩
theorem round_any {m m' l : Nat} {f : FuncId} {tmps : Array Value} {assign body : Code} {w : World} {R : Ending → World → Prop}
    (h : RoundIn Fence.wide m P l f tmps assign body w R) : RoundIn Fence.wide m' P l f tmps assign body w R := ⟨h.1, fun c cs _ => h.2 c cs (room_wide _)⟩
end Go
end
section
namespace Go
theorem RoundIn.into {m l l2 : Nat} {P : Program} {f : FuncId} {tmps : Array Value} {assign body : Code} {w : World} {R : Ending → World → Prop}
    (h : RoundIn Fence.wide m P l f tmps assign body w R) : RoundIn (Fence.wide.inRound l2) m P l f tmps assign body w R := h
end Go
namespace Go.Proofs.Ytjiagjonlcadiaa
open Go.RowKit Go.Shelf

attribute [local go_sem] Oper.semAt_some

/-- block b holds these figures -/
def Figs (w : World) (b len : Nat) (g : Nat → Int) : Prop := b < w.heap.size ∧ ∀ j, j < len → w.cell? ⟨b, j, none⟩ = some (.int .u32 (g j))
section figs
variable {w w' : World} {b len : Nat} {g : Nat → Int}
theorem Figs.lt (h : Figs w b len g) : b < w.heap.size := h.1
theorem Figs.same (h : Figs w b len g) (he : w'.heap[b]? = w.heap[b]?) (hs : w.heap.size ≤ w'.heap.size) : Figs w' b len g :=
  ⟨Nat.lt_of_lt_of_le h.1 hs, fun j hj => (World.cell?_of_block (w := w) (w' := w') (a := ⟨b, j, none⟩) he).trans (h.2 j hj)⟩
theorem Figs.call (h : Figs w b len g) (hb : Below w.heap.size w w') : Figs w' b len g := h.same (hb.block _ h.1) hb.size
theorem Figs.drew (h : Figs w b len g) : Figs w.drew b len g := h
theorem Figs.alloc (h : Figs w b len g) (o : Obj) : Figs (w.alloc o) b len g := h.call ((Below.refl _ _).alloc (Nat.le_refl _) _)
theorem Figs.other (h : Figs w b len g) (a : Addr) (v : Value) (hb : b ≠ a.block) : Figs (w.setCell a v) b len g :=
  h.same (heap_setCell_other w a b v hb) ((Below.refl 0 w).setCell (p := a) (Nat.zero_le _) v).size
theorem Figs.setRow_other (h : Figs w b len g) (k : Nat) (c : Array Value) (hg : b ≠ k) : Figs (w.setRow k c) b len g :=
  h.same (Go.setRow_other w k b c hg) (below_setRow (Below.refl 0 w) k c (Nat.zero_le _)).size
theorem Has.figs {K : Nat} {f : Nat → Int} {t : TypeId} (h : Has w b (row .u32 K f) t) : Figs w b K f := ⟨h.lt, fun j hj => h.cell j hj⟩
end figs

set_option maxRecDepth 100000 in
set_option maxHeartbeats 2000000 in
theorem bku_seq (Bs b len cap : Nat) (g : Nat → Int) (hlen : len ≤ 1000000) (w : World) (hBs : Has w Bs #[.slice (some ⟨b, 0, none⟩) len cap] 86) (hc : Figs w b len g) :
    SeqZ Try.prog 126 #[.pointer (some ⟨Bs, 0, none⟩)] (fun k => #[Value.int .i64 ((len - 1 - k : Nat) : Int), Value.int .u32 (g (len - 1 - k))]) len (fun j => j = Bs ∨ j = b) w := by
  intro n l J W hn hW h0 hz hY
  have mBs := hBs.below hW hBs.lt
  have mc := hc.same (hW.block _ hc.lt) hW.size
  have hj0 := h0 W (Below.refl _ _)
  have MBs := Lib.hid mBs; clear mBs
  have Mc := Lib.hid mc; clear mc
  have H0 := Lib.hid h0; clear h0
  have Hz := Lib.hid hz; clear hz
  clear hBs hc hW
  refine callsIn_of_wp Try.func126 rfl trivial ?_ rfl
  simp only [Try.ntmps126, List.size_toArray, List.length_cons, List.length_nil, Nat.reduceAdd, Nat.reduceSub, Array.replicate_succ, Array.replicate_zero, List.push_toArray, List.append_toArray, List.nil_append, List.cons_append]
  have hBsW : W.cell? ⟨Bs, 0, none⟩ = some (.slice (some ⟨b, 0, none⟩) len cap) := by rw [MBs.out.cellAt]; rfl
  gi_wp2
  gi_loopw [3] (fun i wr => ∃ m : Nat, m ≤ len ∧ i = .int .i64 ((m : Int) - 1) ∧ J W.heap.size (len - m) wr ∧ Keep2 Bs b W wr ∧ W.heap.size ≤ wr.heap.size)
    (fun i _ => (intOf i + 1).toNat)
  case atStart => exact ⟨len, Nat.le_refl _, rfl, by rw [Nat.sub_self]; exact hj0, ⟨rfl, rfl⟩, Nat.le_refl _⟩
  case round =>
    obtain ⟨m, hm, rfl, hJs, hnx, hsz⟩ := hrel
    have hBs' := (World.cell?_of_block (w := W) (w' := wr) (a := ⟨Bs, 0, none⟩) hnx.1).trans hBsW
    rcases Nat.eq_zero_or_pos m with h0m | h0m
    · subst h0m
      gi_wp2
      go_end0
      exact ⟨⟨_, rfl⟩, _, Nat.le_refl _, hsz, hJs⟩
    · obtain ⟨j, rfl⟩ : ∃ j, m = j + 1 := ⟨m - 1, by omega⟩
      rw [show ((j + 1 : Nat) : Int) - 1 = (j : Int) by omega]
      have hj : j < len := by omega
      have hcx : wr.cell? ⟨b, j, none⟩ = some (.int .u32 (g j)) := (World.cell?_of_block (w := W) (w' := wr) (a := ⟨b, j, none⟩) hnx.2).trans (Mc.out.2 j hj)
      obtain ⟨fn, tmps, assign, body, hy, hR⟩ := hY (n - 1) W.heap.size (len - (j + 1)) wr (Nat.le_refl _) hsz (by omega) hJs
      rw [show len - 1 - (len - (j + 1)) = j by omega] at hy
      rw [show len - (j + 1) + 1 = len - j by omega] at hR
      gi_wp2
      refine hR.mono ?_
      rintro e W3 ⟨rfl, hJ3, hsz3, hk3⟩
      gi_wp2
      go_roundw
      case rel => exact ⟨j, by omega, rfl, hJ3, keep2_t hnx ⟨hk3 Bs (.inr (.inl rfl)), hk3 b (.inr (.inr rfl))⟩, by omega⟩
      case measure => simp [intOf]

set_option maxRecDepth 100000 in
set_option maxHeartbeats 1000000 in
theorem bku_call (a : Option Addr) (len cap : Nat) (w : World) : Calls Try.prog 116 #[.slice a len cap] w fun e w' => (e = .returned (.func (.func 126) #[] #[.pointer (some ⟨w.heap.size, 0, none⟩)]) ∧ Has w' w.heap.size #[.slice a len cap] 86) ∧ Below w.heap.size w w' := by
  refine (callsIn_wide (n := 0)).1 (callsIn_of_wp Try.func116 rfl trivial ?_ rfl)
  simp only [Try.ntmps116, List.size_toArray, List.length_cons, List.length_nil, Nat.reduceAdd, Nat.reduceSub, Array.replicate_succ, Array.replicate_zero, List.push_toArray, List.append_toArray, List.nil_append, List.cons_append]
  gi_wp2
  go_ret
  exact ⟨⟨rfl, Has.new w _ _⟩, below_1 w _⟩
set_option maxRecDepth 100000 in
set_option maxHeartbeats 1000000 in
theorem bkf_call (a : Option Addr) (len cap : Nat) (w : World) : Calls Try.prog 103 #[.slice a len cap] w fun e w' => (e = .returned (.func (.func 115) #[] #[.pointer (some ⟨w.heap.size, 0, none⟩)]) ∧ Has w' w.heap.size #[.slice a len cap] 86) ∧ Below w.heap.size w w' := by
  refine (callsIn_wide (n := 0)).1 (callsIn_of_wp Try.func103 rfl trivial ?_ rfl)
  simp only [Try.ntmps103, List.size_toArray, List.length_cons, List.length_nil, Nat.reduceAdd, Nat.reduceSub, Array.replicate_succ, Array.replicate_zero, List.push_toArray, List.append_toArray, List.nil_append, List.cons_append]
  gi_wp2
  go_ret
  exact ⟨⟨rfl, Has.new w _ _⟩, below_1 w _⟩
theorem ent116 : _root_.Go.Enters Try.prog 116 := ⟨_, Try.func116, by kernel_rfl, by kernel_rfl⟩
theorem ent103 : _root_.Go.Enters Try.prog 103 := ⟨_, Try.func103, by kernel_rfl, by kernel_rfl⟩
theorem ent126 : ∀ (args : Array Value) (w : World), (callFunc 126 args).run Try.prog w = .ok (.enter 126 args) w := Go.Proofs.enters_of Try.func126 (by kernel_rfl) rfl
theorem ent115 : ∀ (args : Array Value) (w : World), (callFunc 115 args).run Try.prog w = .ok (.enter 115 args) w := Go.Proofs.enters_of Try.func115 (by kernel_rfl) rfl

set_option maxRecDepth 100000 in
set_option linter.unusedSimpArgs false in
set_option maxHeartbeats 4000000 in
theorem bkf_seq (Bs b len cap : Nat) (g : Nat → Int) (hlen : len ≤ 1000000) (w0 : World) (hBs : Has w0 Bs #[.slice (some ⟨b, 0, none⟩) len cap] 86) (hc : Figs w0 b len g) :
    SeqZ Try.prog 115 #[.pointer (some ⟨Bs, 0, none⟩)] (fun k => #[Value.int .u32 (g (len - 1 - k))]) len (fun j => j = Bs ∨ j = b) w0 := by
  intro n l J w hn hW h0 hz hY
  have m1 := hBs.below hW hBs.lt
  have mc := hc.same (hW.block _ hc.lt) hW.size
  have lBs := m1.lt
  have lb := mc.lt
  have M1 := Lib.hid m1; clear m1
  have Mc := Lib.hid mc; clear mc
  clear hBs hc hW
  refine callsIn_of_wp_marks Try.func115 rfl trivial (wpIn_wide.2 ?_) rfl
  simp only [Try.ntmps115, List.size_toArray, List.length_cons, List.length_nil, Nat.reduceAdd, Nat.reduceSub, Array.replicate_succ, Array.replicate_zero, List.push_toArray, List.append_toArray, List.nil_append, List.cons_append]
  repeat ((fail_if_success (with_reducible (show wpList _ _ _ _ _ _))); go_step)
  (refine wpList_step (fun K hK => ?_); go_simp; (try go_bits); refine hK _ _ ?_; clear hK K)
  refine wpList_nil ?_
  have MY := Lib.hid (Has.new w #[.func (.yield l) #[] #[]] 142)
  have HB := Lib.hid (below_1 w (.cells #[.func (.yield l) #[] #[]] 142))
  replace M1 := Lib.hid (M1.out.alloc (.cells #[.func (.yield l) #[] #[]] 142))
  replace Mc := Lib.hid (Mc.out.alloc (.cells #[.func (.yield l) #[] #[]] 142))
  obtain ⟨yw1, hwyw1⟩ : ∃ ww, ww = w.alloc (.cells #[.func (.yield l) #[] #[]] 142) := ⟨_, rfl⟩
  rw [← hwyw1] at M1 Mc MY HB ⊢
  clear hwyw1
  repeat ((fail_if_success (with_reducible (show wpList _ _ _ _ _ _))); go_step)
  have MYl := MY.out.lt
  refine wpList_load1 (by rfl) 86 _ rfl (Bs) rfl (.slice (some ⟨b, 0, none⟩) len cap) _ M1.out.one Try.underlying86 rfl 5 rfl ?_
  (try simp only [Act.put, sI, sS, sZ])
  refine wpList_call (by rfl) rfl rfl (by rfl) ent116 (by rfl) (bku_call _ _ _ _) 6 rfl ?_
  rintro e uw1 ⟨⟨rfl, hbs⟩, hb⟩
  replace M1 := Lib.hid (M1.out.call hb)
  replace Mc := Lib.hid (Mc.out.call hb)
  replace MY := Lib.hid (MY.out.call hb)
  replace HB := Lib.hid (held_next HB.out hb)
  have MS := Lib.hid hbs; clear hbs
  refine ⟨_, rfl, ?_⟩
  clear hb
  (try simp only [Act.put, sI, sS, sZ])
  refine wpList_nil ?_
  have gY : w.heap.size < yw1.heap.size := MYl
  obtain ⟨BS, hBS⟩ : ∃ B, B = yw1.heap.size := ⟨_, rfl⟩
  rw [← hBS] at MS gY ⊢
  clear hBS
  repeat ((fail_if_success (with_reducible (show wpList _ _ _ _ _ _))); go_step)
  have hlS := MS.out.lt
  have hlb := Mc.out.lt
  have hsz := HB.out.size
  have hst := bku_seq BS b len cap g hlen uw1 MS.out Mc.out
  have hf : ∀ (k : Nat) (t : Array Value), ((#[7, 8] : Array Tmp).zip #[Value.int .i64 ((len - 1 - k : Nat) : Int), Value.int .u32 (g (len - 1 - k))]).foldl (fun t (p, v) => t.setIfInBounds p v) t = (t.setIfInBounds 7 (.int .i64 ((len - 1 - k : Nat) : Int))).setIfInBounds 8 (.int .u32 (g (len - 1 - k))) := fun k t => by simp
  refine range_z (gf := 126) (lb := #[.pointer (some ⟨BS, 0, none⟩)]) rfl ent126 hst (Below.refl _ _) (fun _ => rfl) (fun j hj => by rcases hj with rfl | rfl <;> omega)
    (fun s k V => uw1.heap.size ≤ s ∧ J s k V ∧ Has V w.heap.size #[.func (.yield l) #[] #[]] 142) ?h0 ?hz (fun k t => t.setIfInBounds 4 (.int .u32 (g (len - 1 - k)))) ?assign ?body ?done
  case h0 =>
    intro W1 hb hs
    exact ⟨hb.size, h0 W1 (HB.out.trans (hb.mono hsz)), MY.out.below hb (by omega)⟩
  case hz =>
    rintro s k A B ⟨h1, h2, h3⟩ hq
    exact ⟨h1, hz s k A B h2 (hq.wide hsz), (hq.block _ (by omega)).trans h3⟩
  case assign =>
    intro m l2 k V K hK
    simp only [hf, sI, sS, sZ] at hK ⊢
    gi_wp2
    exact hK
  case body =>
    rintro m l2 s k V hs hsV hk ⟨h1, h2, h3⟩
    have hcy := h3.one
    obtain ⟨fn, tmps, assign, body, hy, hR⟩ := hY (m - 1) s k V (by omega) hsV hk h2
    have hR' := hR.into (l2 := l2)
    clear hR hst hz h0 hY h2
    simp only [hf, sI, sS, sZ]
    clear hf
    gi_wp2
    refine ⟨fun h => (by cases h), hR'.mono ?_⟩
    rintro e V3 ⟨rfl, hJ3, hsz3, hk3⟩
    gi_wp2
    exact ⟨⟨h1, hJ3, (hk3 _ (.inl ⟨by omega, by omega⟩)).trans h3⟩, hsz3, fun j hj => hk3 j (by rcases hj with ⟨h4, h5⟩ | rfl | rfl <;> first | exact .inl ⟨by omega, by omega⟩ | exact .inr (.inr rfl))⟩
  case done =>
    rintro s V hs hsV ⟨h1, h2, h3⟩ hD
    have hD2 := Lib.hid hD
    clear hD
    repeat ((fail_if_success (with_reducible (show wpList _ _ _ _ _ _))); go_step)
    refine ⟨by simp, .inl ⟨_, _, rfl, run_takeDeferred hD2.out, ?_⟩⟩
    refine ⟨_, results_none rfl _ _ _, ⟨_, rfl⟩, s, by omega, by rw [World.putObj_size]; exact hsV, hz _ _ _ _ h2 (Zone.put V _ _ hsz (by omega))⟩
end Go.Proofs.Ytjiagjonlcadiaa
end
section
namespace Go
open Go.RowKit
theorem ownsRow_zone {A B : World} {lo s : Nat} {e : TypeId} {size : Nat} {v : Value} {n : Nat} {xs : List Value} (h : A.ownsRow s e size v n xs) (hq : Zone lo s A B) : B.ownsRow s e size v n xs := by
  obtain ⟨h1, h2⟩ := h
  refine ⟨h1, h2.imp id ?_⟩
  rintro ⟨g, cap, cur, hv, hb, hg, hr⟩
  exact ⟨g, cap, cur, hv, hb, (hq.block g (fun ⟨_, h⟩ => by omega)).trans hg, hr⟩
theorem ownsRow_base {A : World} {b s : Nat} {e : TypeId} {size : Nat} {v : Value} {n : Nat} {xs : List Value} (h : A.ownsRow s e size v n xs) (hb : b ≤ s) : A.ownsRow b e size v n xs := by
  obtain ⟨h1, h2⟩ := h
  refine ⟨h1, h2.imp id ?_⟩
  rintro ⟨g, cap, cur, hv, hb', hr⟩
  exact ⟨g, cap, cur, hv, by omega, hr⟩
theorem ownsRow_s {W : World} {base : Nat} {e : TypeId} {size n : Nat} {v : Value} {xs : List Value} (h : W.ownsRow base e size v (n + 1) xs) : ∃ g cap, v = .slice (some ⟨g, 0, none⟩) (n + 1) cap ∧ base ≤ g := by
  rcases h.2 with ⟨_, h⟩ | ⟨g, cap, cur, hv, hb, _⟩
  · omega
  · exact ⟨g, cap, hv, hb⟩
end Go
namespace Go.Proofs.Ytjiagjonlcadiaa
open Go.RowKit Go.Shelf

attribute [local go_sem] Oper.semAt_some

theorem info91 : (Try.prog.info? 91).map (fun i => (i.zero, i.size, i.bytes)) = some (some (.int .u32 0), 1, 4) := by kernel_rfl
/-- the first k figures, as values -/
def fvals (vals : Nat → Int) (k : Nat) : List Value := (List.range k).map fun j => Value.int .u32 (vals j)
theorem fvals_succ (vals : Nat → Int) (k : Nat) : fvals vals (k + 1) = fvals vals k ++ [.int .u32 (vals k)] := by simp [fvals, List.range_succ]

set_option maxRecDepth 100000 in
set_option linter.unusedSimpArgs false in
set_option maxHeartbeats 4000000 in
theorem apseq_any (gf : Nat) (lb : Array Value) (len : Nat) (hlen : len ≤ 1000000) (vals : Nat → Int) (prot : Nat → Prop) (eg : ∀ (args : Array Value) (w : World), (callFunc gf args).run Try.prog w = .ok (.enter gf args) w) (w : World)
    (hseq : SeqZ Try.prog gf lb (fun k => #[.int .u32 (vals k)]) len prot w) (hprot : ∀ j, prot j → j < w.heap.size) :
    Calls Try.prog 118 #[.slice none 0 0, .func (.func gf) #[] lb] w fun e w' => (∃ v, e = .returned v ∧ w'.ownsRow w.heap.size 91 1 v len (fvals vals len)) ∧ Below w.heap.size w w' := by
  obtain ⟨i0, hi, hz0, hz1, hz2⟩ := info_parts info91
  refine (callsIn_wide (n := 3)).1 (callsIn_of_wp_marks Try.func118 rfl trivial (wpIn_wide.2 ?_) rfl)
  simp only [Try.ntmps118, List.size_toArray, List.length_cons, List.length_nil, Nat.reduceAdd, Nat.reduceSub, Array.replicate_succ, Array.replicate_zero, List.push_toArray, List.append_toArray, List.nil_append, List.cons_append]
  repeat ((fail_if_success (with_reducible (show wpList _ _ _ _ _ _))); go_step)
  iterate 2 (refine wpList_step (fun K hK => ?_); go_simp; (try go_bits); refine hK _ _ ?_; clear hK K)
  refine wpList_nil ?_
  have M2 := Lib.hid (Has.new w  (#[.slice none 0 0]) 86)
  have HB := Lib.hid (below_1 w (.cells (#[.slice none 0 0]) 86))
  obtain ⟨yw1, hwyw1⟩ : ∃ ww, ww = (w.alloc (.cells (#[.slice none 0 0]) 86)) := ⟨_, rfl⟩
  rw [← hwyw1] at M2 HB ⊢
  clear hwyw1
  repeat ((fail_if_success (with_reducible (show wpList _ _ _ _ _ _))); go_step)
  (refine wpList_step (fun K hK => ?_); go_simp; (try go_bits); refine hK _ _ ?_; clear hK K)
  refine wpList_nil ?_
  repeat ((fail_if_success (with_reducible (show wpList _ _ _ _ _ _))); go_step)
  have hlt := M2.out.lt
  have hsz := HB.out.size
  have hf : ∀ (k : Nat) (t : Array Value), ((#[7] : Array Tmp).zip #[Value.int .u32 (vals k)]).foldl (fun t (p, v) => t.setIfInBounds p v) t = t.setIfInBounds 7 (.int .u32 (vals k)) := fun k t => by simp
  refine range_z (gf := gf) (lb := lb) rfl eg hseq HB.out (fun _ => rfl) (fun j hj => by have := hprot j hj; omega)
    (fun s k V => ∃ v, Has V w.heap.size #[v] 86 ∧ V.ownsRow s 91 1 v k (fvals vals k) ∧ Below w.heap.size w V ∧ yw1.heap.size ≤ s) ?h0 ?hz (fun k t => t.setIfInBounds 5 (.int .u32 (vals k))) ?assign ?body ?done
  case h0 =>
    intro W1 hb hs
    exact ⟨_, M2.out.below hb hlt, World.ownsRow_nil _ _ _ _, HB.out.trans (hb.mono hsz), hb.size⟩
  case hz =>
    rintro s k A B ⟨v, h1, h2, h3, h4⟩ hq
    exact ⟨v, (hq.block _ (by omega)).trans h1, ownsRow_zone h2 hq, hq.below h3 hsz, h4⟩
  case assign =>
    intro m l2 k V K hK
    simp only [hf, sI, sS, sZ] at hK ⊢
    gi_wp2
    exact hK
  case body =>
    rintro m l2 s k V hs hsV hk ⟨v, h1, h2, h3, h4⟩
    simp only [hf, sI, sS, sZ]
    clear hf hseq
    have M2 := Lib.hid h1
    have Hown := Lib.hid h2
    have H3 := Lib.hid h3
    clear h1 h2 h3
    repeat ((fail_if_success (with_reducible (show wpListIn _ _ _ _ _ _ _ _))); gi_step)
    refine wpr_lit (by kernel_rfl) ?_
    refine wpList_load1 (by rfl) 86 _ rfl (w.heap.size) rfl (v) _ M2.out.one Try.underlying86 rfl 8 rfl ?_
    (try simp only [Act.put, sI, sS, sZ])
    iterate 2 (refine wpList_step (fun K hK => ?_); go_simp; (try go_bits); refine hK _ _ ?_; clear hK K)
    
    refine wpList_append_own _ rfl _ _ 86 rfl s 91 i0 (.int .u32 0) 1 4 Try.underlying86 hi hz0 hz1 hz2 rfl (by decide) v k (fvals vals k) rfl (Hown.out.alloc _) ⟨V.heap.size, 0, none⟩ 1 1 [.int .u32 (vals k)] rfl rfl (cell_one_new _ _ _) (by simp [Value.oneCell']) (by unfold maxLen; omega) (by omega) (by simp; omega) ?_
    intro v' w1 hown' hgrow _
    obtain ⟨g', cap', rfl, hg'⟩ := ownsRow_s hown'
    have hne : ∀ j, j < s → some j ≠ v.ownBlock := fun j hj e => by have := (Hown.out.lt j e.symm).1; omega
    have mB : Has w1 w.heap.size #[v] 86 := (hgrow.block _ (by have := M2.out.lt; simp; omega) (hne _ (by omega))).trans (M2.out.alloc _)
    have hszg := hgrow.size
    rw [World.size_alloc] at hszg
    (try simp only [Act.put, sI, sS, sZ])
    refine wpList_store1 (by rfl) 86 _ _ rfl rfl (w.heap.size) (.slice (some ⟨g', 0, none⟩) (k + 1) cap') rfl rfl _ _ mB (by kernel_rfl) rfl rfl ?_
    intro w2 hw2
    refine wpList_nil ?_
    have hs2 : w1.heap.size ≤ w2.heap.size := by rw [hw2]; exact ((Below.refl 0 w1).setCell (p := ⟨w.heap.size, 0, none⟩) (Nat.zero_le _) _).size
    refine ⟨⟨_, by rw [hw2]; exact mB.setAt 0 _, ?_, ?_, h4⟩, by omega, fun j hj => ?_⟩
    · rw [fvals_succ, hw2]
      exact hown'.kept (grownBy_setCell' w1 w.heap.size _) (.inr (by unfold Value.ownBlock; intro e; injection e with e; have e2 : g' = w.heap.size := e; omega))
    · rw [hw2]
      have hb1 : Below w.heap.size w w1 := (H3.out.alloc H3.out.size (.cells #[.int .u32 (vals k)] 91)).grown hgrow (by rw [World.size_alloc]; have := H3.out.size; omega) (fun j e => by have := (Hown.out.lt j e).1; omega)
      exact hb1.setCell (p := ⟨w.heap.size, 0, none⟩) (Nat.le_refl _) _
    · have hj1 : j < s ∧ j ≠ w.heap.size := by
        rcases hj with ⟨a, b⟩ | h
        · exact ⟨b, by omega⟩
        · have := hprot j h; exact ⟨by omega, by omega⟩
      rw [hw2]
      exact (heap_setCell_other w1 ⟨w.heap.size, 0, none⟩ j _ hj1.2).trans ((hgrow.block j (by rw [World.size_alloc]; omega) (hne j hj1.1)).trans (Below.heap_alloc V _ j (by omega)))
  case done =>
    rintro s V hs hsV ⟨v, h1, h2, h3, h4⟩ hD
    have hD2 := Lib.hid hD
    have M2 := Lib.hid h1
    have Hown := Lib.hid h2
    have H3 := Lib.hid h3
    clear hD h1 h2 h3 hseq hf
    repeat ((fail_if_success (with_reducible (show wpList _ _ _ _ _ _))); go_step)
    refine wpList_load1 (by rfl) 86 _ rfl (w.heap.size) rfl (v) _ M2.out.one Try.underlying86 rfl 12 rfl ?_
    (try simp only [Act.put, sI, sS, sZ])
    (refine wpList_step (fun K hK => ?_); go_simp; (try go_bits); refine hK _ _ ?_; clear hK K)
    refine wpList_nil ?_
    repeat ((fail_if_success (with_reducible (show wpList _ _ _ _ _ _))); go_step)
    refine ⟨by simp, .inl ⟨_, _, rfl, run_takeDeferred hD2.out, ?_⟩⟩
    have hq : Zone yw1.heap.size s V (V.putObj yw1.heap.size (.deferred none)) := Zone.put V _ _ (Nat.le_refl _) (by omega)
    refine ⟨_, results_tmp rfl _ _ _, ⟨_, rfl, ownsRow_base (ownsRow_zone Hown.out hq) (by omega)⟩, hq.below H3.out hsz⟩
end Go.Proofs.Ytjiagjonlcadiaa
end
section
namespace Go.Proofs.Ytjiagjonlcadiaa
open Go.RowKit Go.Lib

/-- the order -/
def L0 : Nat := 7237005577332262213973186563042994240857116359379907606001950938285454250989
/-- seventeen figures of 16 bits -/
def r17 (n : Nat) : Array Value := row .u32 17 (dg 65536 n)
theorem r17_size (n : Nat) : (r17 n).size = 17 := row_size _ _ _
def z92 : Array Value := (#[.int .u32 0, .int .u32 0, .int .u32 0, .int .u32 0, .int .u32 0, .int .u32 0, .int .u32 0, .int .u32 0, .int .u32 0, .int .u32 0, .int .u32 0, .int .u32 0, .int .u32 0, .int .u32 0, .int .u32 0, .int .u32 0, .int .u32 0] : Array Value)
theorem al92 (w : World) : (Instr.alloc 92 true (.tuple #[])).run Try.prog w = .ok (.pointer (some ⟨w.heap.size, 0, none⟩)) (w.alloc (.cells z92 92)) := by
  unfold z92
  go_simp
theorem bd92 : Try.prog.built 92 [(0, .int .u32 54253), (1, .int .u32 23797), (2, .int .u32 25370), (3, .int .u32 22546), (4, .int .u32 40150), (5, .int .u32 41719), (6, .int .u32 63966), (7, .int .u32 5342), (15, .int .u32 4096)] = some (r17 L0) := by kernel_rfl

set_option maxRecDepth 100000 in
set_option linter.unusedSimpArgs false in
set_option maxHeartbeats 4000000 in
theorem order_any (w : World) : Calls Try.prog 105 #[] w fun e w' => e = .returned (.agg (r17 L0)) ∧ Below w.heap.size w w' := by
  go_enter Try.func105, Try.ntmps105
  repeat ((fail_if_success (with_reducible (show wpList _ _ _ _ _ _))); go_step)
  (refine wpList_step (fun K hK => ?_); go_simp; (try go_bits); refine hK _ _ ?_; clear hK K)
  refine wpList_nil ?_
  have M0 := Lib.hid (HasN.new w  (#[.int .u32 0, .int .u32 0, .int .u32 0, .int .u32 0, .int .u32 0, .int .u32 0, .int .u32 0, .int .u32 0, .int .u32 0, .int .u32 0, .int .u32 0, .int .u32 0, .int .u32 0, .int .u32 0, .int .u32 0, .int .u32 0, .int .u32 0] : Array Value) 92 17 (by kernel_rfl))
  have HB := Lib.hid (below_1 w (.cells (#[.int .u32 0, .int .u32 0, .int .u32 0, .int .u32 0, .int .u32 0, .int .u32 0, .int .u32 0, .int .u32 0, .int .u32 0, .int .u32 0, .int .u32 0, .int .u32 0, .int .u32 0, .int .u32 0, .int .u32 0, .int .u32 0, .int .u32 0] : Array Value) 92))
  obtain ⟨yw1, hwyw1⟩ : ∃ ww, ww = (w.alloc (.cells (#[.int .u32 0, .int .u32 0, .int .u32 0, .int .u32 0, .int .u32 0, .int .u32 0, .int .u32 0, .int .u32 0, .int .u32 0, .int .u32 0, .int .u32 0, .int .u32 0, .int .u32 0, .int .u32 0, .int .u32 0, .int .u32 0, .int .u32 0] : Array Value) 92)) := ⟨_, rfl⟩
  rw [← hwyw1] at M0 HB ⊢
  clear hwyw1
  repeat ((fail_if_success (with_reducible (show wpList _ _ _ _ _ _))); go_step)
  refine wpList_built (by rfl) 92 _ rfl _ (by rfl) (r17 L0) (bd92) 1 rfl ?_
  (try simp only [Act.put, sI, sS, sZ])
  first | (obtain ⟨Zq, hZ, mZ⟩ := M0.out) | (obtain ⟨Zq, hZ, mZ⟩ := M0.out.toN (r17_size ..))
  refine wpList_store2 (by rfl) 92 _ _ rfl rfl (w.heap.size) (r17 L0) rfl rfl 92 Zq mZ (by rw [r17_size]; kernel_rfl) (hZ.trans (r17_size ..).symm) (row_one _ _ _) ?_
  intro yw2 hw2
  replace M0 := Lib.hid (mZ.setRow (r17 L0))
  replace HB := Lib.hid (below_setRow HB.out (w.heap.size) (r17 L0) (by omega))
  rw [← hw2] at M0 HB; clear mZ hZ hw2
  refine wpList_nil ?_
  go_wp2_with fail
  exact bodyPost_ret (v := .agg (r17 L0)) (results_cell_row (t := 92) (by rfl) _ _ (w.heap.size) _ _ _ rfl M0.out Try.underlying92 rfl (by rw [r17_size]; kernel_rfl)) rfl ⟨rfl, HB.out⟩
theorem ent105 : _root_.Go.Enters Try.prog 105 := ⟨_, Try.func105, by kernel_rfl, by kernel_rfl⟩
theorem ent106 : _root_.Go.Enters Try.prog 106 := ⟨_, Try.func106, by kernel_rfl, by kernel_rfl⟩
theorem ent107 : _root_.Go.Enters Try.prog 107 := ⟨_, Try.func107, by kernel_rfl, by kernel_rfl⟩
theorem ent108 : _root_.Go.Enters Try.prog 108 := ⟨_, Try.func108, by kernel_rfl, by kernel_rfl⟩
theorem ent118 : _root_.Go.Enters Try.prog 118 := ⟨_, Try.func118, by kernel_rfl, by kernel_rfl⟩
theorem ent72 : _root_.Go.Enters Try.prog 72 := ⟨_, Try.func72, by kernel_rfl, by kernel_rfl⟩

set_option maxRecDepth 100000 in
set_option linter.unusedSimpArgs false in
set_option maxHeartbeats 4000000 in
theorem collect_any (gf : Nat) (lb : Array Value) (len : Nat) (h1 : 1 ≤ len) (hlen : len ≤ 1000000) (vals : Nat → Int) (prot : Nat → Prop) (eg : ∀ (args : Array Value) (w : World), (callFunc gf args).run Try.prog w = .ok (.enter gf args) w) (w : World)
    (hseq : SeqZ Try.prog gf lb (fun k => #[.int .u32 (vals k)]) len prot w) (hprot : ∀ j, prot j → j < w.heap.size) :
    Calls Try.prog 107 #[.func (.func gf) #[] lb] w fun e w' => (∃ B cap, e = .returned (.slice (some ⟨B, 0, none⟩) len cap) ∧ Figs w' B len vals) ∧ Below w.heap.size w w' := by
  have hap := apseq_any gf lb len hlen vals prot eg w hseq hprot
  have Hap := Lib.hid hap; clear hap
  clear hseq
  go_enter Try.func107, Try.ntmps107
  repeat ((fail_if_success (with_reducible (show wpList _ _ _ _ _ _))); go_step)
  (refine wpList_step (fun K hK => ?_); go_simp; (try go_bits); refine hK _ _ ?_; clear hK K)
  refine wpList_nil ?_
  have HB := Lib.hid (Below.refl w.heap.size w)
  repeat ((fail_if_success (with_reducible (show wpList _ _ _ _ _ _))); go_step)
  (refine wpList_step (fun K hK => ?_); go_simp; (try go_bits); refine hK _ _ ?_; clear hK K)
  refine wpList_call (by rfl) rfl rfl (by rfl) ent118 (by rfl) (Hap.out) 4 rfl ?_
  rintro e uw1 ⟨⟨rv, rfl, hown⟩, hb⟩
  replace HB := Lib.hid (held_next HB.out hb)
  refine ⟨_, rfl, ?_⟩
  clear hb
  (try simp only [Act.put, sI, sS, sZ])
  (refine wpList_step (fun K hK => ?_); go_simp; (try go_bits); refine hK _ _ ?_; clear hK K)
  refine wpList_nil ?_
  obtain ⟨j, rfl⟩ : ∃ j, len = j + 1 := ⟨len - 1, by omega⟩
  obtain ⟨hl, hr⟩ := hown
  rcases hr with ⟨_, h0⟩ | ⟨g, cap, cur, rfl, _, hg, hn, _, hcs, htk⟩
  · omega
  · have hfig : Figs uw1 g (j + 1) vals := ⟨(Array.getElem?_eq_some_iff.1 hg).1, fun i hi => by
      have hm : Has uw1 g cur 91 := hg
      rw [hm.cellAt]
      have h2 : (cur.toList.take ((j + 1) * 1))[i]? = some (.int .u32 (vals i)) := by rw [htk]; simp [fvals, hi]
      rw [List.getElem?_take_of_lt (by omega)] at h2
      simpa using h2⟩
    go_wp2_with fail
    go_ret
    exact ⟨⟨g, cap, rfl, hfig⟩, HB.out⟩

set_option maxRecDepth 100000 in
set_option maxHeartbeats 1000000 in
theorem cmp_any (a b : Int) (ha : 0 ≤ a) (ha2 : a < 65536) (hb : 0 ≤ b) (hb2 : b < 65536) (w : World) : Calls Try.prog 108 #[.int .u32 a, .int .u32 b] w fun e w' => e = .returned (.int .i64 (a - b)) ∧ Below w.heap.size w w' := by
  go_enter Try.func108, Try.ntmps108
  go_wp2
  go_ret
  exact ⟨rfl, Below.refl _ _⟩

/-- the first difference of two rows of figures -/
def CmpZ (N : Nat) (A B : Nat → Int) (z : Int) : Prop := (∃ i, i < N ∧ (∀ j, j < i → A j = B j) ∧ A i ≠ B i ∧ z = A i - B i) ∨ ((∀ j, j < N → A j = B j) ∧ z = 0)

set_option maxRecDepth 100000 in
set_option linter.unusedSimpArgs false in
set_option maxHeartbeats 4000000 in
theorem cmpf_any (b1 b2 N c1 c2 : Nat) (A B : Nat → Int) (hN : N ≤ 1000) (hA : ∀ j, 0 ≤ A j ∧ A j < 65536) (hB2 : ∀ j, 0 ≤ B j ∧ B j < 65536) (w : World) (f1 : Figs w b1 N A) (f2 : Figs w b2 N B) :
    Calls Try.prog 106 #[.slice (some ⟨b1, 0, none⟩) N c1, .slice (some ⟨b2, 0, none⟩) N c2, .func (.func 108) #[] #[]] w fun e w' => (∃ z, CmpZ N A B z ∧ e = .returned (.int .i64 z)) ∧ Below w.heap.size w w' := by
  have HA := Lib.hid hA; clear hA
  have HB2 := Lib.hid hB2; clear hB2
  have F1 := Lib.hid f1; clear f1
  have F2 := Lib.hid f2; clear f2
  go_enter Try.func106, Try.ntmps106
  repeat ((fail_if_success (with_reducible (show wpList _ _ _ _ _ _))); go_step)
  (refine wpList_step (fun K hK => ?_); go_simp; (try go_bits); refine hK _ _ ?_; clear hK K)
  refine wpList_nil ?_
  have HB := Lib.hid (Below.refl w.heap.size w)
  repeat ((fail_if_success (with_reducible (show wpList _ _ _ _ _ _))); go_step)
  iterate 3 (refine wpList_step (fun K hK => ?_); go_simp; (try go_bits); refine hK _ _ ?_; clear hK K)
  refine wpList_nil ?_
  repeat ((fail_if_success (with_reducible (show wpList _ _ _ _ _ _))); go_step)
  go_loopw [13] (fun i wr => ∃ k : Nat, k ≤ N ∧ i = .int .i64 (k : Int) ∧ RowKit.Hid (∀ j, j < k → A j = B j) ∧ Figs wr b1 N A ∧ Figs wr b2 N B ∧ Below w.heap.size w wr) (fun i _ => (N - (intOf i).toNat))
  case atStart => exact ⟨0, Nat.zero_le _, rfl, Lib.hid (fun j hj => by omega), F1.out, F2.out, HB.out⟩
  case round =>
    clear HB F1 F2
    obtain ⟨k, hk, rfl, Heq, f1, f2, hB⟩ := hrel
    have F1 := Lib.hid f1; clear f1
    have F2 := Lib.hid f2; clear f2
    have HB := Lib.hid hB; clear hB
    rcases Nat.lt_or_ge k N with hlt | hge
    · have kq : (k : Int) < (N : Int) := by omega
      have hc1 := F1.out.2 k hlt
      have hc2 := F2.out.2 k hlt
      have a1 := (HA.out k).1
      have a2 := (HA.out k).2
      have a3 := (HB2.out k).1
      have a4 := (HB2.out k).2
      obtain ⟨x, hx⟩ : ∃ x, x = A k := ⟨_, rfl⟩
      obtain ⟨y, hy⟩ : ∃ y, y = B k := ⟨_, rfl⟩
      rw [← hx] at hc1 a1 a2
      rw [← hy] at hc2 a3 a4
      have Hx := Lib.hid hx; clear hx
      have Hy := Lib.hid hy; clear hy
      have hcmp := fun w => cmp_any x y a1 a2 a3 a4 w
      have Hcmp := Lib.hid hcmp; clear hcmp
      repeat ((fail_if_success (with_reducible (show wpList _ _ _ _ _ _))); go_step)
      (refine wpList_step (fun K hK => ?_); go_simp; (try go_bits); refine hK _ _ ?_; clear hK K)
      refine wpList_nil ?_
      repeat ((fail_if_success (with_reducible (show wpList _ _ _ _ _ _))); go_step)
      iterate 5 (refine wpList_step (fun K hK => ?_); go_simp; (try go_bits); refine hK _ _ ?_; clear hK K)
      refine wpList_nil ?_
      repeat ((fail_if_success (with_reducible (show wpList _ _ _ _ _ _))); go_step)
      iterate 4 (refine wpList_step (fun K hK => ?_); go_simp; (try go_bits); refine hK _ _ ?_; clear hK K)
      refine wpList_nil ?_
      repeat ((fail_if_success (with_reducible (show wpList _ _ _ _ _ _))); go_step)
      iterate 5 (refine wpList_step (fun K hK => ?_); go_simp; (try go_bits); refine hK _ _ ?_; clear hK K)
      refine wpList_nil ?_
      repeat ((fail_if_success (with_reducible (show wpList _ _ _ _ _ _))); go_step)
      clear hc1 hc2
      iterate 3 (refine wpList_step (fun K hK => ?_); go_simp; (try go_bits); refine hK _ _ ?_; clear hK K)
      refine wpList_call (by rfl) rfl rfl (by rfl) ent108 (by rfl) (Hcmp.out _) 29 rfl ?_
      rintro e uw101 ⟨rfl, hb⟩
      replace F1 := Lib.hid (F1.out.call hb)
      replace F2 := Lib.hid (F2.out.call hb)
      replace HB := Lib.hid (held_next HB.out hb)
      refine ⟨_, rfl, ?_⟩
      clear hb
      (try simp only [Act.put, sI, sS, sZ])
      (refine wpList_step (fun K hK => ?_); go_simp; (try go_bits); refine hK _ _ ?_; clear hK K)
      refine wpList_nil ?_
      repeat ((fail_if_success (with_reducible (show wpList _ _ _ _ _ _))); go_step)
      by_cases hxy : x = y
      · subst hxy
        have Hnext : RowKit.Hid (∀ j, j < k + 1 → A j = B j) := by
          refine Lib.hid (fun j hj => ?_)
          by_cases e : j = k
          · rw [e, ← Hx.out, ← Hy.out]
          · exact Heq.out j (by omega)
        have hne : (x - x != 0) = false := by simp
        iterate 2 (refine wpList_step (fun K hK => ?_); go_simp; (try go_bits); refine hK _ _ ?_; clear hK K)
        refine wpList_nil ?_
        repeat ((fail_if_success (with_reducible (show wpList _ _ _ _ _ _))); go_step)
        iterate 2 (refine wpList_step (fun K hK => ?_); go_simp; (try go_bits); refine hK _ _ ?_; clear hK K)
        refine wpList_nil ?_
        go_roundw
        case measure => simp [intOf]; omega
        case rel => (repeat apply Exists.intro); exact ⟨⟨k + 1, by omega, by go_num, Hnext, F1.out, F2.out, HB.out⟩, rfl⟩
      · have hne : (x - y != 0) = true := by simp; omega
        iterate 2 (refine wpList_step (fun K hK => ?_); go_simp; (try go_bits); refine hK _ _ ?_; clear hK K)
        refine wpList_nil ?_
        repeat ((fail_if_success (with_reducible (show wpList _ _ _ _ _ _))); go_step)
        iterate 2 (refine wpList_step (fun K hK => ?_); go_simp; (try go_bits); refine hK _ _ ?_; clear hK K)
        refine wpList_nil ?_
        go_wp2_with fail
        go_ret
        exact ⟨⟨x - y, .inl ⟨k, hlt, Heq.out, by rw [← Hx.out, ← Hy.out]; exact hxy, by rw [← Hx.out, ← Hy.out]⟩, rfl⟩, HB.out⟩
    · have hkN : k = N := by omega
      subst hkN
      clear hk hge
      repeat ((fail_if_success (with_reducible (show wpList _ _ _ _ _ _))); go_step)
      (refine wpList_step (fun K hK => ?_); go_simp; (try go_bits); refine hK _ _ ?_; clear hK K)
      refine wpList_nil ?_
      repeat ((fail_if_success (with_reducible (show wpList _ _ _ _ _ _))); go_step)
      iterate 5 (refine wpList_step (fun K hK => ?_); go_simp; (try go_bits); refine hK _ _ ?_; clear hK K)
      refine wpList_nil ?_
      repeat ((fail_if_success (with_reducible (show wpList _ _ _ _ _ _))); go_step)
      (refine wpList_step (fun K hK => ?_); go_simp; (try go_bits); refine hK _ _ ?_; clear hK K)
      refine wpList_nil ?_
      go_wp2_with fail
      go_ret
      exact ⟨⟨0, .inr ⟨Heq.out, rfl⟩, rfl⟩, HB.out⟩
end Go.Proofs.Ytjiagjonlcadiaa
end
section
namespace Go.Proofs.Ytjiagjonlcadiaa
open Go.RowKit Go.Lib

theorem dg_nat (B n i : Nat) : dg B n i = ((n / B ^ i % B : Nat) : Int) := rfl
/-- a row that is turned from the figures of n into those of m, so far k of them -/
def mixd (m n k : Nat) : Nat → Int := fun j => if j < k then dg 65536 m j else dg 65536 n j
theorem mixd_at (m n k : Nat) : mixd m n k k = dg 65536 n k := by unfold mixd; rw [if_neg (by omega)]
theorem mixd_upd (m n k : Nat) (x : Int) (h : x = dg 65536 m k) : upd (mixd m n k) k x = mixd m n (k + 1) := by
  funext j
  unfold upd mixd
  by_cases e : j = k
  · rw [if_pos e, if_pos (by omega), h, e]
  · rw [if_neg e]
    by_cases e2 : j < k
    · rw [if_pos e2, if_pos (by omega)]
    · rw [if_neg e2, if_neg (by omega)]
theorem mixd_0 (m n : Nat) : row .u32 17 (mixd m n 0) = r17 n := row_ext _ _ _ _ (fun j hj => by unfold mixd; rw [if_neg (by omega)])
theorem mixd_17 (m n : Nat) : row .u32 17 (mixd m n 17) = r17 m := row_ext _ _ _ _ (fun j hj => by unfold mixd; rw [if_pos hj])
theorem dbl_step (m n k c v x : Nat) (h : m / 65536 ^ k = 2 * (n / 65536 ^ k) + c) (hc : c < 2) (hx : n / 65536 ^ k % 65536 = x) (hv : v = 2 * x + c) :
    m / 65536 ^ k % 65536 = v % 65536 ∧ m / 65536 ^ (k + 1) = 2 * (n / 65536 ^ (k + 1)) + v / 65536 ∧ v / 65536 < 2 := by
  rw [Nat.pow_succ, ← Nat.div_div_eq_div_mul, ← Nat.div_div_eq_div_mul]
  omega
theorem sub_step (d n l k c x y : Nat) (h : n / 65536 ^ k = d / 65536 ^ k + l / 65536 ^ k + c) (hc : c < 2) (hx : n / 65536 ^ k % 65536 = x) (hy : l / 65536 ^ k % 65536 = y) :
    (d / 65536 ^ k % 65536 = (x + 4294967296 - y - c) % 4294967296 % 65536) ∧ n / 65536 ^ (k + 1) = d / 65536 ^ (k + 1) + l / 65536 ^ (k + 1) + (x + 4294967296 - y - c) % 4294967296 / 2147483648 ∧ (x + 4294967296 - y - c) % 4294967296 / 2147483648 < 2 := by
  rw [Nat.pow_succ, ← Nat.div_div_eq_div_mul, ← Nat.div_div_eq_div_mul, ← Nat.div_div_eq_div_mul]
  generalize n / 65536 ^ k = N at *
  generalize d / 65536 ^ k = D at *
  generalize l / 65536 ^ k = L at *
  omega
/-- where the first difference from the top on is not below, the number is not either -/
theorem cmpz_le (n l N : Nat) (hn : n < 65536 ^ N) (hl : l < 65536 ^ N) (z : Int) (h : CmpZ N (fun k => dg 65536 n (N - 1 - k)) (fun k => dg 65536 l (N - 1 - k)) z) : decide (0 ≤ z) = decide (l ≤ n) := by
  have key : ∀ i, i ≤ N → (∀ j, j < i → n / 65536 ^ (N - 1 - j) % 65536 = l / 65536 ^ (N - 1 - j) % 65536) → n / 65536 ^ (N - i) = l / 65536 ^ (N - i) := by
    intro i
    induction i with
    | zero => intro _ _; rw [Nat.sub_zero, Nat.div_eq_of_lt hn, Nat.div_eq_of_lt hl]
    | succ i ih =>
      intro hi hj
      have h1 := ih (by omega) (fun j hj' => hj j (by omega))
      have h2 := hj i (by omega)
      rw [show N - 1 - i = N - (i + 1) by omega] at h2
      rw [show N - i = N - (i + 1) + 1 by omega, Nat.pow_succ, ← Nat.div_div_eq_div_mul, ← Nat.div_div_eq_div_mul] at h1
      omega
  have inj : ∀ k, dg 65536 n k = dg 65536 l k → n / 65536 ^ k % 65536 = l / 65536 ^ k % 65536 := fun k h => by unfold dg at h; omega
  rcases h with ⟨i, hi, he, hne, hz⟩ | ⟨he, hz⟩
  · have hk := key i (by omega) (fun j hj => inj _ (he j hj))
    have hne2 : n / 65536 ^ (N - 1 - i) % 65536 ≠ l / 65536 ^ (N - 1 - i) % 65536 := fun e => hne (by show dg _ _ _ = dg _ _ _; unfold dg; rw [e])
    have hz2 : z = ((n / 65536 ^ (N - 1 - i) % 65536 : Nat) : Int) - ((l / 65536 ^ (N - 1 - i) % 65536 : Nat) : Int) := hz
    rw [show N - i = N - 1 - i + 1 by omega, Nat.pow_succ, ← Nat.div_div_eq_div_mul, ← Nat.div_div_eq_div_mul] at hk
    generalize hp : 65536 ^ (N - 1 - i) = p at *
    have hp0 : 0 < p := by rw [← hp]; exact Nat.pow_pos (by decide)
    by_cases h0 : l ≤ n
    · have h3 : l / p ≤ n / p := Nat.div_le_div_right h0
      rw [decide_eq_true h0, decide_eq_true (by omega)]
    · have h3 : n / p ≤ l / p := Nat.div_le_div_right (by omega)
      rw [decide_eq_false h0, decide_eq_false (by omega)]
  · have hk := key N (Nat.le_refl _) (fun j hj => inj _ (he j hj))
    rw [Nat.sub_self, Nat.pow_zero, Nat.div_one, Nat.div_one] at hk
    rw [hz, hk, decide_eq_true (Nat.le_refl _)]; rfl
theorem dg65 (n j : Nat) : 0 ≤ dg 65536 n j ∧ dg 65536 n j < 65536 := by unfold dg; omega
theorem But.set {B : Nat} {A W : World} (h : But B A W) (a : Addr) (v : Value) (ha : a.block = B) : But B A (W.setCell a v) := by
  have h2 := (Below.refl 0 W).setCell (p := a) (Nat.zero_le _) v
  exact ⟨h2.os.trans h.os, h2.tape.trans h.tape, h2.output.trans h.output, Nat.le_trans h.size h2.size, fun k hk hn => (heap_setCell_other W a k v (by omega)).trans (h.block k hk hn)⟩
theorem Figs.but {A W : World} {B b len : Nat} {g : Nat → Int} (h : Figs A b len g) (hb : But B A W) (hn : b ≠ B) : Figs W b len g := h.same (hb.block b h.lt hn) hb.size
theorem L0_17 : L0 < 65536 ^ 17 := by decide +kernel

set_option maxRecDepth 100000 in
set_option linter.unusedSimpArgs false in
set_option maxHeartbeats 4000000 in
theorem atLeast_any (R n : Nat) (hn : n < 65536 ^ 17) (w : World) (hR : Has w R (r17 n) 93) :
    Calls Try.prog 72 #[.pointer (some ⟨R, 0, none⟩)] w fun e w' => e = .returned (.bool (decide (L0 ≤ n))) ∧ Below w.heap.size w w' := by
  have hfr := Has.figs hR
  have MR := Lib.hid hR
  have HF := Lib.hid hfr
  have Hn := Lib.hid hn
  clear hR hfr hn
  go_enter Try.func72, Try.ntmps72
  repeat ((fail_if_success (with_reducible (show wpList _ _ _ _ _ _))); go_step)
  (refine wpList_step (fun K hK => ?_); go_simp; (try go_bits); refine hK _ _ ?_; clear hK K)
  refine wpList_nil ?_
  have HB := Lib.hid (Below.refl w.heap.size w)
  repeat ((fail_if_success (with_reducible (show wpList _ _ _ _ _ _))); go_step)
  refine wpList_call (by rfl) rfl rfl (by rfl) ent105 (by rfl) (order_any _) 4 rfl ?_
  rintro e uw1 ⟨rfl, hb⟩
  replace HF := Lib.hid (HF.out.call hb)
  replace HB := Lib.hid (held_next HB.out hb)
  refine ⟨_, rfl, ?_⟩
  clear hb
  (try simp only [Act.put, sI, sS, sZ])
  refine wpList_alloc (by rfl) 92 rfl _ al92 3 rfl ?_
  intro yw1 hw2
  have hlt2 := HF.out.lt
  have hsz := HB.out.size
  replace HF := Lib.hid (HF.out.alloc (.cells z92 92))
  have M3 := Lib.hid (HasN.new uw1 z92 92 17 (by kernel_rfl))
  replace HB := Lib.hid (HB.out.alloc hsz (.cells z92 92))
  rw [← hw2] at HF M3 HB; clear hw2
  (try simp only [Act.put, sI, sS, sZ])
  first | (obtain ⟨Zq, hZ, mZ⟩ := M3.out) | (obtain ⟨Zq, hZ, mZ⟩ := M3.out.toN (r17_size ..))
  refine wpList_store2 (by rfl) 92 _ _ rfl rfl (uw1.heap.size) (r17 L0) rfl rfl 92 Zq mZ (by rw [r17_size]; kernel_rfl) (hZ.trans (r17_size ..).symm) (row_one _ _ _) ?_
  intro yw3 hw2
  replace HF := Lib.hid (HF.out.setRow_other (uw1.heap.size) (r17 L0) (by omega))
  replace M3 := Lib.hid (mZ.setRow (r17 L0))
  replace HB := Lib.hid (below_setRow HB.out (uw1.heap.size) (r17 L0) (by omega))
  rw [← hw2] at HF M3 HB; clear mZ hZ hw2
  refine wpList_nil ?_
  repeat ((fail_if_success (with_reducible (show wpList _ _ _ _ _ _))); go_step)
  have HL := Lib.hid (Has.figs M3.out)
  refine wp_region_noPanic ?_
  refine wp_region_goS (fun _ => True) 99 11 #[ff,ff,ff,ff,ff,ff,ff,ff,ff,ff,ff] (by kernel_rfl) rfl rfl ?_
  replace HF := Lib.hid (HF.out.drew)
  replace M3 := Lib.hid (M3.out.drew)
  replace HL := Lib.hid (HL.out.drew)
  replace HB := Lib.hid (below_drewN HB.out 1)
  obtain ⟨yw4, hwyw4⟩ : ∃ ww, ww = yw3.drew := ⟨_, rfl⟩
  rw [← hwyw4] at HF M3 HL ⊢
  have kq : Below w.heap.size w yw4 := by rw [hwyw4]; exact HB.out
  clear HB; have HB := Lib.hid kq; clear kq hwyw4
  refine go_take2 0 5 #[tt,ff,ff,ff,ff,ff,ff,ff,ff,ff,ff] (v := ?uv1) rfl rfl rfl (by kernel_rfl) (Or.inl ⟨by rfl, ?uy1⟩) (trivial) ?urest1
  case uy1 => (intro _ _; go_simp; try with_reducible rfl)
  (try simp only [sI, sS, sZ])
  refine go_take2 1 6 #[tt,tt,ff,ff,ff,ff,ff,ff,ff,ff,ff] (v := ?uv2) rfl rfl rfl (by kernel_rfl) (Or.inl ⟨by rfl, ?uy2⟩) (trivial) ?urest2
  case uy2 => (intro _ _; go_simp; try with_reducible rfl)
  (try simp only [sI, sS, sZ])
  refine go_take2 2 7 #[tt,tt,tt,ff,ff,ff,ff,ff,ff,ff,ff] (v := ?uv3) rfl rfl rfl (by kernel_rfl) (Or.inl ⟨by rfl, ?uy3⟩) (trivial) ?urest3
  case uy3 => (intro _ _; go_simp; try with_reducible rfl)
  (try simp only [sI, sS, sZ])
  refine go_take2 5 10 #[tt,tt,tt,ff,ff,tt,ff,ff,ff,ff,ff] (v := ?uv4) rfl rfl rfl (by kernel_rfl) (Or.inl ⟨by rfl, ?uy4⟩) (trivial) ?urest4
  case uy4 => (intro _ _; go_simp; try with_reducible rfl)
  (try simp only [sI, sS, sZ])
  refine wpBut_r1 (i := 3) (by kernel_rfl) ?_
  refine go_call 3 8 #[tt,tt,tt,tt,ff,tt,ff,ff,ff,ff,ff] rfl rfl rfl (by rfl) rfl rfl (by rfl) ent103 (by rfl) (bkf_call _ _ _ _) ?_
  rintro e uw2 ⟨⟨rfl, hbs⟩, hb⟩
  replace HF := Lib.hid (HF.out.call hb)
  replace M3 := Lib.hid (M3.out.call hb)
  replace HL := Lib.hid (HL.out.call hb)
  replace HB := Lib.hid (held_next HB.out hb)
  have MS1 := Lib.hid hbs; clear hbs
  refine ⟨_, rfl, fun _ => trivial, ?_⟩
  clear hb
  (try simp only [sI, sS, sZ])
  refine wpBut_r1 (i := 4) (by kernel_rfl) ?_
  refine go_call 4 9 #[tt,tt,tt,tt,tt,tt,ff,ff,ff,ff,ff] rfl rfl rfl (by rfl) rfl rfl (by rfl) ent107 (by rfl) (collect_any 115 #[.pointer (some ⟨yw4.heap.size, 0, none⟩)] 17 (by decide) (by decide) _ _ ent115 _ (bkf_seq (yw4.heap.size) (R) 17 17 (dg 65536 n) (by decide) _ MS1.out HF.out) (fun j hj => by rcases hj with rfl | rfl; exact MS1.out.lt; exact HF.out.lt)) ?_
  rintro e uw3 ⟨⟨C1, cap1, rfl, hfg⟩, hb⟩
  replace HF := Lib.hid (HF.out.call hb)
  replace M3 := Lib.hid (M3.out.call hb)
  replace HL := Lib.hid (HL.out.call hb)
  replace MS1 := Lib.hid (MS1.out.call hb)
  replace HB := Lib.hid (held_next HB.out hb)
  have F1 := Lib.hid hfg; clear hfg
  refine ⟨_, rfl, fun _ => trivial, ?_⟩
  clear hb
  (try simp only [sI, sS, sZ])
  refine wpBut_r1 (i := 6) (by kernel_rfl) ?_
  refine go_call 6 11 #[tt,tt,tt,tt,tt,tt,tt,ff,ff,ff,ff] rfl rfl rfl (by rfl) rfl rfl (by rfl) ent103 (by rfl) (bkf_call _ _ _ _) ?_
  rintro e uw4 ⟨⟨rfl, hbs⟩, hb⟩
  replace HF := Lib.hid (HF.out.call hb)
  replace M3 := Lib.hid (M3.out.call hb)
  replace HL := Lib.hid (HL.out.call hb)
  replace MS1 := Lib.hid (MS1.out.call hb)
  replace F1 := Lib.hid (F1.out.call hb)
  replace HB := Lib.hid (held_next HB.out hb)
  have MS2 := Lib.hid hbs; clear hbs
  refine ⟨_, rfl, fun _ => trivial, ?_⟩
  clear hb
  (try simp only [sI, sS, sZ])
  refine wpBut_r1 (i := 7) (by kernel_rfl) ?_
  refine go_call 7 12 #[tt,tt,tt,tt,tt,tt,tt,tt,ff,ff,ff] rfl rfl rfl (by rfl) rfl rfl (by rfl) ent107 (by rfl) (collect_any 115 #[.pointer (some ⟨uw3.heap.size, 0, none⟩)] 17 (by decide) (by decide) _ _ ent115 _ (bkf_seq (uw3.heap.size) (uw1.heap.size) 17 17 (dg 65536 L0) (by decide) _ MS2.out HL.out) (fun j hj => by rcases hj with rfl | rfl; exact MS2.out.lt; exact HL.out.lt)) ?_
  rintro e uw5 ⟨⟨C2, cap2, rfl, hfg⟩, hb⟩
  replace HF := Lib.hid (HF.out.call hb)
  replace M3 := Lib.hid (M3.out.call hb)
  replace HL := Lib.hid (HL.out.call hb)
  replace MS1 := Lib.hid (MS1.out.call hb)
  replace F1 := Lib.hid (F1.out.call hb)
  replace MS2 := Lib.hid (MS2.out.call hb)
  replace HB := Lib.hid (held_next HB.out hb)
  have F2 := Lib.hid hfg; clear hfg
  refine ⟨_, rfl, fun _ => trivial, ?_⟩
  clear hb
  (try simp only [sI, sS, sZ])
  refine wpBut_r1 (i := 8) (by kernel_rfl) ?_
  refine go_call 8 13 #[tt,tt,tt,tt,tt,tt,tt,tt,tt,ff,ff] rfl rfl rfl (by rfl) rfl rfl (by rfl) ent106 (by rfl) (cmpf_any C1 C2 17 cap1 cap2 _ _ (by decide) (fun j => dg65 _ _) (fun j => dg65 _ _) _ F1.out F2.out) ?_
  rintro e uw6 ⟨⟨z, hz, rfl⟩, hb⟩
  replace HF := Lib.hid (HF.out.call hb)
  replace M3 := Lib.hid (M3.out.call hb)
  replace HL := Lib.hid (HL.out.call hb)
  replace MS1 := Lib.hid (MS1.out.call hb)
  replace F1 := Lib.hid (F1.out.call hb)
  replace MS2 := Lib.hid (MS2.out.call hb)
  replace F2 := Lib.hid (F2.out.call hb)
  replace HB := Lib.hid (held_next HB.out hb)
  have Hz := Lib.hid hz; clear hz
  refine ⟨_, rfl, fun _ => trivial, ?_⟩
  clear hb
  (try simp only [sI, sS, sZ])
  refine go_take2 9 14 #[tt,tt,tt,tt,tt,tt,tt,tt,tt,tt,ff] (v := ?uv5) rfl rfl rfl (by kernel_rfl) (Or.inl ⟨by rfl, ?uy5⟩) (trivial) ?urest5
  case uy5 => (intro _ _; go_simp; try with_reducible rfl)
  (try simp only [sI, sS, sZ])
  refine go_take2 10 2 #[tt,tt,tt,tt,tt,tt,tt,tt,tt,tt,tt] (v := ?uv6) rfl rfl rfl (by kernel_rfl) (Or.inl ⟨by rfl, ?uy6⟩) (trivial) ?urest6
  case uy6 => (intro _ _; go_simp; try with_reducible rfl)
  (try simp only [sI, sS, sZ])
  refine wpBut_done (by kernel_rfl) (NoPanic.normal ?_)
  go_wp2_with fail
  go_ret
  have hfin := cmpz_le n L0 17 Hn.out L0_17 z Hz.out
  exact ⟨by rw [← hfin]; rfl, HB.out⟩
end Go.Proofs.Ytjiagjonlcadiaa
end
section
namespace Go.Proofs.Ytjiagjonlcadiaa
open Go.RowKit Go.Lib

theorem ent117 : _root_.Go.Enters Try.prog 117 := ⟨_, Try.func117, by kernel_rfl, by kernel_rfl⟩
theorem ent104 : _root_.Go.Enters Try.prog 104 := ⟨_, Try.func104, by kernel_rfl, by kernel_rfl⟩
theorem wu32 (n : Int) (h0 : 0 ≤ n) (h1 : n < 2 ^ 32) : IntKind.u32.wrap n = n := by rw [IntKind.wrap_u32]; omega
theorem or_bit (x c : Nat) (hx : x < 65536) (hc : c < 2) : bits .or .u32 ((x : Int) * 2) (c : Int) = ((2 * x + c : Nat) : Int) := by
  rw [bits_join .u32 32 (by decide) wu32 1 _ _ (by omega) (by omega) (by omega) (by omega) (by omega) (by omega)]
  omega
theorem and_16 (v : Nat) (hv : v < 4294967296) : bits .and .u32 (v : Int) 65535 = ((v % 65536 : Nat) : Int) := by
  have h := bits_mask .u32 32 (by decide) wu32 16 (by decide) (v : Int) (by omega) (by omega)
  rw [show ((2 : Int) ^ 16 - 1) = 65535 by decide] at h
  rw [h]; omega
theorem sz_91 (w : World) : (sizeOf 91).run Try.prog w = .ok 1 w := by kernel_rfl
theorem sub_wrap (x y c v : Nat) (hx : x < 65536) (hy : y < 65536) (hc : c < 2) (hv : v = (x + 4294967296 - y - c) % 4294967296) : ((x : Int) - (y : Int) - (c : Int)) % 4294967296 = (v : Int) := by omega

set_option maxRecDepth 100000 in
set_option linter.unusedSimpArgs false in
set_option maxHeartbeats 4000000 in
theorem take_any (R n d : Nat) (hd : n = d + L0) (w : World) (hR : Has w R (r17 n) 93) :
    Calls Try.prog 117 #[.pointer (some ⟨R, 0, none⟩)] w fun e w' => e = .returned (.tuple #[]) ∧ Has w' R (r17 d) 93 ∧ But R w w' := by
  have H0 := Lib.hid (show n / 65536 ^ 0 = d / 65536 ^ 0 + L0 / 65536 ^ 0 + 0 by rw [Nat.pow_zero, Nat.div_one, Nat.div_one, Nat.div_one]; omega)
  rw [← mixd_0 d n] at hR
  have MR := Lib.hid hR
  have HB := Lib.hid (But.refl R w)
  clear hR hd
  go_enter Try.func117, Try.ntmps117
  repeat ((fail_if_success (with_reducible (show wpList _ _ _ _ _ _))); go_step)
  (refine wpList_step (fun K hK => ?_); go_simp; (try go_bits); refine hK _ _ ?_; clear hK K)
  refine wpList_nil ?_
  repeat ((fail_if_success (with_reducible (show wpList _ _ _ _ _ _))); go_step)
  refine wpList_call (by rfl) rfl rfl (by rfl) ent105 (by rfl) (order_any _) 6 rfl ?_
  rintro e uw1 ⟨rfl, hb⟩
  replace MR := Lib.hid (MR.out.call hb)
  replace HB := Lib.hid (HB.out.call hb)
  refine ⟨_, rfl, ?_⟩
  clear hb
  (try simp only [Act.put, sI, sS, sZ])
  (refine wpList_step (fun K hK => ?_); go_simp; (try go_bits); refine hK _ _ ?_; clear hK K)
  refine wpList_nil ?_
  repeat ((fail_if_success (with_reducible (show wpList _ _ _ _ _ _))); go_step)
  go_loopw [7, 2] (fun i c wr => ∃ k cc : Nat, k ≤ 17 ∧ cc < 2 ∧ i = .int .i64 (k : Int) ∧ c = .int .u32 (cc : Int) ∧ RowKit.Hid (n / 65536 ^ k = d / 65536 ^ k + L0 / 65536 ^ k + cc) ∧ Has wr R (row .u32 17 (mixd d n k)) 93 ∧ But R w wr) (fun i _ _ => (17 - intOf i).toNat)
  case atStart => exact ⟨0, 0, by omega, by omega, rfl, rfl, H0, MR.out, HB.out⟩
  case round =>
    clear MR HB H0
    obtain ⟨k, cc, hk, hcc, rfl, rfl, H0, mR, hB⟩ := hrel
    have MR := Lib.hid mR; clear mR
    have HB := Lib.hid hB; clear hB
    rcases Nat.lt_or_ge k 17 with hlt | hge
    · have kq : (k : Int) < 17 := by omega
      obtain ⟨x, hx⟩ : ∃ x, n / 65536 ^ k % 65536 = x := ⟨_, rfl⟩
      obtain ⟨y, hy⟩ : ∃ y, L0 / 65536 ^ k % 65536 = y := ⟨_, rfl⟩
      have lx : x < 65536 := by omega
      have ly : y < 65536 := by omega
      have hc1 : wr.cell? ⟨R, k, none⟩ = some (.int .u32 (x : Int)) := by rw [MR.out.cell k hlt, mixd_at, dg_nat, hx]
      have hfz := MR.out.frozen k
      have hix : ∀ w, (Instr.index 92 (.agg (r17 L0)) (.int .i64 (k : Int))).run Try.prog w = .ok (.int .u32 (y : Int)) w := fun w => by
        rw [show r17 L0 = row .u32 17 (dg 65536 L0) from rfl, run_index_row w 92 91 17 .u32 Try.underlying92 Try.underlying91 sz_91 _ k hlt, dg_nat, hy]
      obtain ⟨v, hv⟩ : ∃ v, v = (x + 4294967296 - y - cc) % 4294967296 := ⟨_, rfl⟩
      have hsub := sub_wrap x y cc v lx ly hcc hv
      have lv : v < 4294967296 := by omega
      obtain ⟨r, hr⟩ : ∃ r, r = v % 65536 := ⟨_, rfl⟩
      obtain ⟨c2, hc2⟩ : ∃ c, c = v / 2147483648 := ⟨_, rfl⟩
      have hand : bits .and .u32 (v : Int) 65535 = (r : Int) := by rw [and_16 v lv, hr]
      have hshr : (v : Int) / 2147483648 = (c2 : Int) := by omega
      obtain ⟨s1, s2, s3⟩ := sub_step d n L0 k cc x y H0.out hcc hx hy
      rw [← hv, ← hr] at s1
      rw [← hv, ← hc2] at s2
      rw [← hv, ← hc2] at s3
      have hup : (r : Int) = dg 65536 d k := by rw [dg_nat, s1]
      clear hr hc2
      have S1 := Lib.hid s1; clear s1
      have S2 := Lib.hid s2; clear s2
      have S3 := Lib.hid s3; clear s3
      have Hv := Lib.hid hv; clear hv
      have Hx := Lib.hid hx; clear hx
      have Hy := Lib.hid hy; clear hy
      have Hup := Lib.hid hup; clear hup
      repeat ((fail_if_success (with_reducible (show wpList _ _ _ _ _ _))); go_step)
      (refine wpList_step (fun K hK => ?_); go_simp; (try go_bits); refine hK _ _ ?_; clear hK K)
      refine wpList_nil ?_
      repeat ((fail_if_success (with_reducible (show wpList _ _ _ _ _ _))); go_step)
      iterate 4 (refine wpList_step (fun K hK => ?_); go_simp; (try go_bits); refine hK _ _ ?_; clear hK K)
      refine wpList_nil ?_
      clear hix
      repeat ((fail_if_success (with_reducible (show wpList _ _ _ _ _ _))); go_step)
      iterate 10 (refine wpList_step (fun K hK => ?_); go_simp; (try go_bits); refine hK _ _ ?_; clear hK K)
      refine wpList_nil ?_
      clear hsub hc1
      repeat ((fail_if_success (with_reducible (show wpList _ _ _ _ _ _))); go_step)
      have hc1 : wr.cell? ⟨R, k, none⟩ = some (.int .u32 (x : Int)) := by rw [MR.out.cell k hlt, mixd_at, dg_nat, Hx.out]
      iterate 9 (refine wpList_step (fun K hK => ?_); go_simp; (try go_bits); refine hK _ _ ?_; clear hK K)
      
      clear hc1 hfz hand
      have kq := MR.out.set (k) ((r : Int)); rw [mixd_upd d n k _ Hup.out] at kq; clear MR; have MR := Lib.hid kq; clear kq
      replace HB := Lib.hid (But.set HB.out ⟨R, k, none⟩ (.int .u32 ((r : Int))) rfl)
      obtain ⟨yw101, hwyw101⟩ : ∃ ww, ww = wr.setCell ⟨R, k, none⟩ (.int .u32 ((r : Int))) := ⟨_, rfl⟩
      rw [← hwyw101] at MR HB ⊢
      clear hwyw101
      (refine wpList_step (fun K hK => ?_); go_simp; (try go_bits); refine hK _ _ ?_; clear hK K)
      refine wpList_nil ?_
      clear hshr
      repeat ((fail_if_success (with_reducible (show wpList _ _ _ _ _ _))); go_step)
      iterate 2 (refine wpList_step (fun K hK => ?_); go_simp; (try go_bits); refine hK _ _ ?_; clear hK K)
      refine wpList_nil ?_
      go_roundw
      case measure => simp [intOf]; omega
      case rel => (repeat apply Exists.intro); exact ⟨⟨k + 1, c2, by omega, S3.out, by go_num, rfl, S2, MR.out, HB.out⟩, rfl⟩
    · have hk17 : k = 17 := by omega
      subst hk17
      clear hk hge
      have mR := MR.out
      rw [mixd_17] at mR
      repeat ((fail_if_success (with_reducible (show wpList _ _ _ _ _ _))); go_step)
      (refine wpList_step (fun K hK => ?_); go_simp; (try go_bits); refine hK _ _ ?_; clear hK K)
      refine wpList_nil ?_
      go_wp2_with fail
      go_end0
      exact ⟨rfl, mR, HB.out⟩

set_option maxRecDepth 100000 in
set_option linter.unusedSimpArgs false in
set_option maxHeartbeats 4000000 in
theorem bit_any (R n b : Nat) (hn : n < L0) (hb : b < 2) (w : World) (hR : Has w R (r17 n) 93) :
    Calls Try.prog 104 #[.pointer (some ⟨R, 0, none⟩), .int .u32 (b : Int)] w fun e w' => e = .returned (.tuple #[]) ∧ Has w' R (r17 ((2 * n + b) % L0)) 93 ∧ But R w w' := by
  obtain ⟨m, hm⟩ : ∃ m, m = 2 * n + b := ⟨_, rfl⟩
  have hl := L0_17
  have hlv : L0 = 7237005577332262213973186563042994240857116359379907606001950938285454250989 := rfl
  have hp17 : (65536 : Nat) ^ 17 = 7588550360256754183279148073529370729071901715047420004889892225542594864082845696 := by decide +kernel
  have hm17 : m < 65536 ^ 17 := by rw [hp17]; rw [hlv] at hn; omega
  have hm2 : m < L0 + L0 := by omega
  rw [← hm]
  have H0 := Lib.hid (show m / 65536 ^ 0 = 2 * (n / 65536 ^ 0) + b by rw [Nat.pow_zero, Nat.div_one, Nat.div_one]; exact hm)
  rw [← mixd_0 m n] at hR
  have MR := Lib.hid hR
  have HB := Lib.hid (But.refl R w)
  clear hR hl hlv hp17 hm hn
  have Hm17 := Lib.hid hm17; clear hm17
  have Hm2 := Lib.hid hm2; clear hm2
  go_enter Try.func104, Try.ntmps104
  repeat ((fail_if_success (with_reducible (show wpList _ _ _ _ _ _))); go_step)
  (refine wpList_step (fun K hK => ?_); go_simp; (try go_bits); refine hK _ _ ?_; clear hK K)
  refine wpList_nil ?_
  repeat ((fail_if_success (with_reducible (show wpList _ _ _ _ _ _))); go_step)
  go_loopw [6, 1] (fun i c wr => ∃ k cc : Nat, k ≤ 17 ∧ cc < 2 ∧ i = .int .i64 (k : Int) ∧ c = .int .u32 (cc : Int) ∧ RowKit.Hid (m / 65536 ^ k = 2 * (n / 65536 ^ k) + cc) ∧ Has wr R (row .u32 17 (mixd m n k)) 93 ∧ But R w wr) (fun i _ _ => (17 - intOf i).toNat)
  case atStart => exact ⟨0, b, by omega, hb, rfl, rfl, H0, MR.out, HB.out⟩
  case round =>
    clear MR HB H0
    obtain ⟨k, cc, hk, hcc, rfl, rfl, H0, mR, hB⟩ := hrel
    have MR := Lib.hid mR; clear mR
    have HB := Lib.hid hB; clear hB
    rcases Nat.lt_or_ge k 17 with hlt | hge
    · have kq : (k : Int) < 17 := by omega
      obtain ⟨x, hx⟩ : ∃ x, n / 65536 ^ k % 65536 = x := ⟨_, rfl⟩
      have lx : x < 65536 := by omega
      have hc1 : wr.cell? ⟨R, k, none⟩ = some (.int .u32 (x : Int)) := by rw [MR.out.cell k hlt, mixd_at, dg_nat, hx]
      have hfz := MR.out.frozen k
      obtain ⟨v, hv⟩ : ∃ v, v = 2 * x + cc := ⟨_, rfl⟩
      have hor : bits .or .u32 ((x : Int) * 2) (cc : Int) = (v : Int) := by rw [or_bit x cc lx hcc, hv]
      have lv : v < 4294967296 := by omega
      obtain ⟨r, hr⟩ : ∃ r, r = v % 65536 := ⟨_, rfl⟩
      obtain ⟨c2, hc2⟩ : ∃ c, c = v / 65536 := ⟨_, rfl⟩
      have hand : bits .and .u32 (v : Int) 65535 = (r : Int) := by rw [and_16 v lv, hr]
      have hshr : (v : Int) / 65536 = (c2 : Int) := by omega
      obtain ⟨s1, s2, s3⟩ := dbl_step m n k cc v x H0.out hcc hx hv
      rw [← hr] at s1
      rw [← hc2] at s2
      rw [← hc2] at s3
      have hup : (r : Int) = dg 65536 m k := by rw [dg_nat, s1]
      clear hr hc2
      have S1 := Lib.hid s1; clear s1
      have S2 := Lib.hid s2; clear s2
      have S3 := Lib.hid s3; clear s3
      have Hv := Lib.hid hv; clear hv
      have Hx := Lib.hid hx; clear hx
      have Hup := Lib.hid hup; clear hup
      repeat ((fail_if_success (with_reducible (show wpList _ _ _ _ _ _))); go_step)
      (refine wpList_step (fun K hK => ?_); go_simp; (try go_bits); refine hK _ _ ?_; clear hK K)
      refine wpList_nil ?_
      repeat ((fail_if_success (with_reducible (show wpList _ _ _ _ _ _))); go_step)
      iterate 2 (refine wpList_step (fun K hK => ?_); go_simp; (try go_bits); refine hK _ _ ?_; clear hK K)
      refine wpList_nil ?_
      repeat ((fail_if_success (with_reducible (show wpList _ _ _ _ _ _))); go_step)
      iterate 9 (refine wpList_step (fun K hK => ?_); go_simp; (try go_bits); refine hK _ _ ?_; clear hK K)
      refine wpList_nil ?_
      clear hor hc1
      repeat ((fail_if_success (with_reducible (show wpList _ _ _ _ _ _))); go_step)
      have hc1 : wr.cell? ⟨R, k, none⟩ = some (.int .u32 (x : Int)) := by rw [MR.out.cell k hlt, mixd_at, dg_nat, Hx.out]
      iterate 9 (refine wpList_step (fun K hK => ?_); go_simp; (try go_bits); refine hK _ _ ?_; clear hK K)
      
      clear hc1 hfz hand
      have kq := MR.out.set (k) ((r : Int)); rw [mixd_upd m n k _ Hup.out] at kq; clear MR; have MR := Lib.hid kq; clear kq
      replace HB := Lib.hid (But.set HB.out ⟨R, k, none⟩ (.int .u32 ((r : Int))) rfl)
      obtain ⟨yw101, hwyw101⟩ : ∃ ww, ww = wr.setCell ⟨R, k, none⟩ (.int .u32 ((r : Int))) := ⟨_, rfl⟩
      rw [← hwyw101] at MR HB ⊢
      clear hwyw101
      (refine wpList_step (fun K hK => ?_); go_simp; (try go_bits); refine hK _ _ ?_; clear hK K)
      refine wpList_nil ?_
      clear hshr
      repeat ((fail_if_success (with_reducible (show wpList _ _ _ _ _ _))); go_step)
      iterate 2 (refine wpList_step (fun K hK => ?_); go_simp; (try go_bits); refine hK _ _ ?_; clear hK K)
      refine wpList_nil ?_
      go_roundw
      case measure => simp [intOf]; omega
      case rel => (repeat apply Exists.intro); exact ⟨⟨k + 1, c2, by omega, S3.out, by go_num, rfl, S2, MR.out, HB.out⟩, rfl⟩
    · have hk17 : k = 17 := by omega
      subst hk17
      clear hk hge
      have mR := MR.out
      rw [mixd_17] at mR
      replace MR := Lib.hid mR
      clear mR
      have hal := fun w h => atLeast_any R m Hm17.out w h
      repeat ((fail_if_success (with_reducible (show wpList _ _ _ _ _ _))); go_step)
      (refine wpList_step (fun K hK => ?_); go_simp; (try go_bits); refine hK _ _ ?_; clear hK K)
      refine wpList_nil ?_
      repeat ((fail_if_success (with_reducible (show wpList _ _ _ _ _ _))); go_step)
      by_cases hle : L0 ≤ m
      · rw [decide_eq_true hle] at hal
        obtain ⟨d, hd⟩ : ∃ d, m = d + L0 := ⟨m - L0, by omega⟩
        have hfin : m % L0 = d := by
          have := Hm2.out
          rw [hd, Nat.add_mod_right, Nat.mod_eq_of_lt (by omega)]
        have htk := fun w h => take_any R m d hd w h
        clear hle hd
        have Hal := Lib.hid hal; clear hal
        have Htk := Lib.hid htk; clear htk
        have Hfin := Lib.hid hfin; clear hfin
        (refine wpList_step (fun K hK => ?_); go_simp; (try go_bits); refine hK _ _ ?_; clear hK K)
        refine wpList_call (by rfl) rfl rfl (by rfl) ent72 (by rfl) (Hal.out _ MR.out) 27 rfl ?_
        rintro e uw101 ⟨rfl, hb⟩
        replace MR := Lib.hid (MR.out.call hb)
        replace HB := Lib.hid (HB.out.call hb)
        refine ⟨_, rfl, ?_⟩
        clear hb
        (try simp only [Act.put, sI, sS, sZ])
        refine wpList_nil ?_
        repeat ((fail_if_success (with_reducible (show wpList _ _ _ _ _ _))); go_step)
        (refine wpList_step (fun K hK => ?_); go_simp; (try go_bits); refine hK _ _ ?_; clear hK K)
        refine wpList_call (by rfl) rfl rfl (by rfl) ent117 (by rfl) (Htk.out _ MR.out) 29 rfl ?_
        rintro e uw102 ⟨rfl, hmU, hb⟩
        replace MR := Lib.hid hmU; clear hmU
        replace HB := Lib.hid (But.trans HB.out hb)
        clear hb
        refine ⟨_, rfl, ?_⟩
        (try simp only [Act.put, sI, sS, sZ])
        refine wpList_nil ?_
        go_wp2_with fail
        go_end0
        exact ⟨rfl, by rw [Hfin.out]; exact MR.out, HB.out⟩
      · rw [decide_eq_false hle] at hal
        have hfin : m % L0 = m := Nat.mod_eq_of_lt (by omega)
        clear hle
        have Hal := Lib.hid hal; clear hal
        have Hfin := Lib.hid hfin; clear hfin
        (refine wpList_step (fun K hK => ?_); go_simp; (try go_bits); refine hK _ _ ?_; clear hK K)
        refine wpList_call (by rfl) rfl rfl (by rfl) ent72 (by rfl) (Hal.out _ MR.out) 27 rfl ?_
        rintro e uw101 ⟨rfl, hb⟩
        replace MR := Lib.hid (MR.out.call hb)
        replace HB := Lib.hid (HB.out.call hb)
        refine ⟨_, rfl, ?_⟩
        clear hb
        (try simp only [Act.put, sI, sS, sZ])
        refine wpList_nil ?_
        go_wp2_with fail
        go_end0
        exact ⟨rfl, by rw [Hfin.out]; exact MR.out, HB.out⟩
end Go.Proofs.Ytjiagjonlcadiaa
end
section
namespace Go
open Go.RowKit
variable {P : Program} {ops : Array Oper} {Q : Exit → Act → World → Prop} {S : World → Prop} {a : Act} {w : World}

theorem run_loadAt_c (w : World) (b j : Nat) (ty : TypeId) (v : Value) (d : TypeDesc) (hc : w.cell? ⟨b, j, none⟩ = some v) (hu : P.underlying ty = some d) (hd : d.isRow = false) : (Instr.loadAt ty (.pointer (some ⟨b, j, none⟩))).run P w = .ok v w := by
  have hag : (isAgg ty).run P w = .ok false w := by
    cases d <;> first | (simp [isAgg, run_underlying hu]; done) | (simp [TypeDesc.isRow] at hd)
  simp [Instr.loadAt, Instr.sureAddr, loadVar, hag, hc]
theorem yieldsIf_loadc {o : Oper} (hw : Region.wanted o (yielded ops a.tmps) = true) (ty : TypeId) (x : Operand) (ho : o.op = .load ty x) (b j : Nat) (hx : a.eval x = .pointer (some ⟨b, j, none⟩)) (v : Value) (d : TypeDesc)
    (hS : ∀ w, S w → w.cell? ⟨b, j, none⟩ = some v) (hu : P.underlying ty = some d) (hd : d.isRow = false) : YieldsIf P ops S o v a := by
  refine Or.inl ⟨hw, fun w hSw => ?_⟩
  unfold execOp
  simp only [ho, hx, Sem.run_bind, run_loadAt_c w b j ty v d (hS w hSw) hu hd, Result.andThen_ok]
  rfl
theorem wpList_loadc {rest : List Oper} {o : Oper} (hw : Region.wanted o (yielded ops a.tmps) = true) (ty : TypeId) (x : Operand) (ho : o.op = .load ty x) (b j : Nat) (hx : a.eval x = .pointer (some ⟨b, j, none⟩)) (v : Value) (d : TypeDesc)
    (hS : w.cell? ⟨b, j, none⟩ = some v) (hu : P.underlying ty = some d) (hd : d.isRow = false) (e : Tmp) (he : o.dst = some e) (h : wpList P ops Q rest { a with tmps := a.tmps.setIfInBounds e v } w) : wpList P ops Q (o :: rest) a w := by
  rcases yieldsIf_loadc (ops := ops) (S := fun w' => w' = w) hw ty x ho b j hx v d (fun w' h' => by rw [h']; exact hS) hu hd with ⟨_, h1⟩ | ⟨h1, _⟩
  · refine wpList_step fun K hK => ?_
    rw [if_pos hw]
    unfold Oper.wp
    rw [h1 w rfl, Oper.upon_value]
    refine hK _ _ ?_
    rw [put_some he]; exact h
  · rw [hw] at h1; cases h1
theorem run_storeAt_c (w : World) (b j : Nat) (ty : TypeId) (v : Value) (hc : (w.cell? ⟨b, j, none⟩).isSome = true) (hf : w.frozen? ⟨b, j, none⟩ = false) (hs : (P.info? ty).map (·.size) = some 1) (hv : v.oneCell' = true) (hcv : v.cells = #[v]) :
    (storeVar ty ⟨b, j, none⟩ v).run P w = .ok () (w.setCell ⟨b, j, none⟩ v) := by
  have h2 := run_storeCells_cells (P := P) b j [v] 0 w (fun k hk => by
    obtain rfl : k = 0 := by simpa using hk
    exact hc) (fun k hk => by
    obtain rfl : k = 0 := by simpa using hk
    exact hf) (by simpa using hv)
  cases hi : P.info? ty with
  | none => rw [hi] at hs; cases hs
  | some i =>
    rw [hi] at hs
    have hs : i.size = 1 := Option.some.inj hs
    simp only [Nat.add_zero] at h2
    have h3 : (storeCells ⟨b, j, none⟩ [v]).run P w = .ok () (w.setCell ⟨b, j, none⟩ v) := h2
    simp [storeVar, sizeOf, typeInfo, hi, hcv, hs, h3]
theorem go_storec {md : Region.Mode} {f n : Nat} {listed : Array Bool} (i : Nat) (l' : Array Bool) {oi : Oper} (hi : ops[i]? = some oi) (hd : oi.dst = none) (hl : listed.setIfInBounds i true = l') (hw : Region.wanted oi (yielded ops a.tmps) = true) (ty : TypeId) (x y : Operand) (ho : oi.op = .store ty x y)
    (b j : Nat) (v : Value) (hx : a.eval x = .pointer (some ⟨b, j, none⟩)) (hy : a.eval y = v) (hc : (w.cell? ⟨b, j, none⟩).isSome = true) (hf : w.frozen? ⟨b, j, none⟩ = false) (hs : (P.info? ty).map (·.size) = some 1) (hv : v.oneCell' = true) (hcv : v.cells = #[v])
    (h : (i ≠ f → S (w.setCell ⟨b, j, none⟩ v)) ∧ wpBut P md ops Q f S n l' a (w.setCell ⟨b, j, none⟩ v)) : BStep P md ops Q f S n listed a w i := by
  refine bstep_wp hi hw ?_
  unfold Oper.wp execOp
  simp only [ho, hx, hy, Instr.storeAt, Instr.sureAddr, Sem.run_bind, Sem.run_pure, Result.andThen_ok, run_storeAt_c w b j ty v hc hf hs hv hcv]
  exact ⟨h.1, by rw [put_none hd, hl]; exact h.2⟩
end Go
end
section
namespace Go.Proofs.Ytjiagjonlcadiaa
open Go.RowKit Go.Lib

/-- these bytes stand there -/
def Byts (w : World) (a : Option Addr) (len n : Nat) : Prop := len = 0 ∨ ∃ b o, a = some ⟨b, o, none⟩ ∧ b < w.heap.size ∧ ∀ i, i < len → w.cell? ⟨b, o + i, none⟩ = some (.int .u8 (dg 256 n i))
theorem Byts.call {w w' : World} {a : Option Addr} {len n : Nat} (h : Byts w a len n) (hb : Below w.heap.size w w') : Byts w' a len n := by
  rcases h with h | ⟨b, o, h1, h2, h3⟩
  · exact .inl h
  · exact .inr ⟨b, o, h1, Nat.lt_of_lt_of_le h2 hb.size, fun i hi => (hb.cell (p := ⟨b, o + i, none⟩) h2).trans (h3 i hi)⟩
theorem Has.byts {w : World} {b n : Nat} {t : TypeId} (h : Has w b (k32 n) t) : Byts w (some ⟨b, 0, none⟩) 32 n :=
  .inr ⟨b, 0, rfl, h.lt, fun i hi => by rw [Nat.zero_add]; exact h.cell i hi⟩

/-- what the figures are when k bytes have come -/
def figsf (n k : Nat) : Nat → Int := fun j => (if 2 * j < k then dg 256 n (2 * j) else 0) + (if 2 * j + 1 < k then 256 * dg 256 n (2 * j + 1) else 0)
theorem figsf_even (n j : Nat) : figsf n (2 * j) j = 0 := by unfold figsf; rw [if_neg (by omega), if_neg (by omega)]; rfl
theorem figsf_odd (n j : Nat) : figsf n (2 * j + 1) j = dg 256 n (2 * j) := by unfold figsf; rw [if_pos (by omega), if_neg (by omega)]; omega
theorem figsf_upd_even (n j : Nat) (x : Int) (hx : x = dg 256 n (2 * j)) : upd (figsf n (2 * j)) j x = figsf n (2 * j + 1) := by
  funext i
  unfold upd figsf
  by_cases e : i = j
  · subst e; rw [if_pos rfl, if_pos (by omega), if_neg (by omega), hx]; omega
  · rw [if_neg e]
    congr 1
    · by_cases h : 2 * i < 2 * j
      · rw [if_pos h, if_pos (by omega)]
      · rw [if_neg h, if_neg (by omega)]
    · by_cases h : 2 * i + 1 < 2 * j
      · rw [if_pos h, if_pos (by omega)]
      · rw [if_neg h, if_neg (by omega)]
theorem figsf_upd_odd (n j : Nat) (x : Int) (hx : x = dg 256 n (2 * j) + 256 * dg 256 n (2 * j + 1)) : upd (figsf n (2 * j + 1)) j x = figsf n (2 * j + 1 + 1) := by
  funext i
  unfold upd figsf
  by_cases e : i = j
  · subst e; rw [if_pos rfl, if_pos (by omega), if_pos (by omega), hx]
  · rw [if_neg e]
    congr 1
    · by_cases h : 2 * i < 2 * j + 1
      · rw [if_pos h, if_pos (by omega)]
      · rw [if_neg h, if_neg (by omega)]
    · by_cases h : 2 * i + 1 < 2 * j + 1
      · rw [if_pos h, if_pos (by omega)]
      · rw [if_neg h, if_neg (by omega)]
theorem dg_two (n j : Nat) : dg 65536 n j = dg 256 n (2 * j) + 256 * dg 256 n (2 * j + 1) := by
  unfold dg
  rw [show (65536 : Nat) ^ j = 256 ^ (2 * j) by rw [Nat.pow_mul], show (256 : Nat) ^ (2 * j + 1) = 256 ^ (2 * j) * 256 from Nat.pow_succ _ _, ← Nat.div_div_eq_div_mul]
  omega
theorem figsf_all (n len : Nat) (hn : n < 256 ^ len) : row .u32 ((len + 1) / 2) (figsf n len) = row .u32 ((len + 1) / 2) (dg 65536 n) := by
  refine row_ext _ _ _ _ fun j hj => ?_
  rw [dg_two]
  unfold figsf
  rw [if_pos (by omega)]
  by_cases h : 2 * j + 1 < len
  · rw [if_pos h]
  · rw [if_neg h]
    have e : len = 2 * j + 1 := by omega
    have : dg 256 n (2 * j + 1) = 0 := by unfold dg; rw [← e, Nat.div_eq_of_lt hn]; rfl
    rw [this]; rfl
theorem figsf_0 (n K : Nat) : row .u32 K (figsf n 0) = row .u32 K (fun _ => 0) := row_ext _ _ _ _ fun j _ => by unfold figsf; rw [if_neg (by omega), if_neg (by omega)]; rfl

theorem mkK (w : World) (K : Nat) (hK : K ≤ 1000) : (Instr.makeSlice 86 (.int .i64 (K : Int)) (.int .i64 (K : Int))).run Try.prog w = .ok (.slice (some ⟨w.heap.size, 0, none⟩) K K) (w.alloc (.cells (row .u32 K fun _ => 0) 91)) := by
  obtain ⟨i0, hi, hz0, hz1, hz2⟩ := info_parts info91
  have h := run_makeSlice (P := Try.prog) w 86 91 i0 _ Try.underlying86 hi hz0 .i64 .i64 (K : Int) (K : Int) (by omega) (by omega) (by rw [hz1]; omega) (by rw [hz2]; omega) (by omega)
  rw [hz1] at h
  simp only [Int.toNat_natCast, Nat.mul_one] at h
  have e : madeCells (Value.int .u32 0).cells K = row .u32 K fun _ => 0 := by
    apply Array.ext_getElem?
    intro j
    by_cases hj : j < K
    · rw [row_get _ _ _ _ hj]; simp [madeCells, Value.cells, hj, Nat.mod_one]
    · rw [row_none _ _ _ _ hj]; simp [madeCells]; omega
  rw [e] at h
  exact h
theorem or_low (c : Nat) (hc : c < 256) : bits .or .u32 0 (c : Int) = (c : Int) := by
  rw [bits_join .u32 32 (by decide) wu32 8 _ _ (by omega) (by omega) (by omega) (by omega) (by omega) (by omega)]; omega
theorem or_high (x c : Nat) (hx : x < 256) (hc : c < 256) : bits .or .u32 (x : Int) ((c * 256 : Nat) : Int) = ((x + 256 * c : Nat) : Int) := by
  have h1 : bits .or .u32 (x : Int) ((c * 256 : Nat) : Int) = bits .or .u32 ((c * 256 : Nat) : Int) (x : Int) := by
    rw [(bits_nat .u32 32 (by decide) wu32 x (c * 256) (by omega) (by omega)).2, (bits_nat .u32 32 (by decide) wu32 (c * 256) x (by omega) (by omega)).2, Nat.or_comm]
  rw [h1, bits_join .u32 32 (by decide) wu32 8 _ _ (by omega) (by omega) (by omega) (by omega) (by omega) (by omega)]
  omega

set_option maxRecDepth 100000 in
set_option linter.unusedSimpArgs false in
set_option maxHeartbeats 4000000 in
theorem figures_any (a : Option Addr) (len cap n : Nat) (hlen : len ≤ 1000) (hn : n < 256 ^ len) (w : World) (hb : Byts w a len n) :
    Calls Try.prog 70 #[.slice a len cap] w fun e w' => (∃ F, w.heap.size ≤ F ∧ e = .returned (.slice (some ⟨F, 0, none⟩) ((len + 1) / 2) ((len + 1) / 2)) ∧ Has w' F (row .u32 ((len + 1) / 2) (dg 65536 n)) 91) ∧ Below w.heap.size w w' := by
  have hfin := figsf_all n len hn
  obtain ⟨K, hKe⟩ : ∃ K, K = (len + 1) / 2 := ⟨_, rfl⟩
  rw [← hKe] at hfin ⊢
  have hK1 : ((len : Int) + 1) / 2 = (K : Int) := by omega
  have hKl : K ≤ 1000 := by omega
  have hK2 : len ≤ 2 * K := by omega
  clear hn hKe
  have MB := Lib.hid hb
  clear hb
  have Hfin := Lib.hid hfin; clear hfin
  go_enter Try.func70, Try.ntmps70
  repeat ((fail_if_success (with_reducible (show wpList _ _ _ _ _ _))); go_step)
  (refine wpList_step (fun K hK => ?_); go_simp; (try go_bits); refine hK _ _ ?_; clear hK K)
  refine wpList_nil ?_
  have HB := Lib.hid (Below.refl w.heap.size w)
  repeat ((fail_if_success (with_reducible (show wpList _ _ _ _ _ _))); go_step)
  iterate 4 (refine wpList_step (fun K hK => ?_); go_simp; (try go_bits); refine hK _ _ ?_; clear hK K)
  rw [hK1]
  refine wpList_make (by rfl) 86 _ _ rfl _ _ rfl rfl _ _ (mkK _ K hKl) 10 rfl ?_
  have hb := below_1 w (.cells (row .u32 K fun _ => 0) 91)
  have nwMF := Has.new w (row .u32 K fun _ => 0) 91
  obtain ⟨yw1, hwyw1⟩ : ∃ ww, ww = w.alloc (.cells (row .u32 K fun _ => 0) 91) := ⟨_, rfl⟩
  rw [← hwyw1] at hb nwMF ⊢
  clear hwyw1
  replace HB := Lib.hid (held_next HB.out hb)
  clear hb
  have MF := Lib.hid nwMF; clear nwMF
  (try simp only [Act.put, sI, sS, sZ])
  (refine wpList_step (fun K hK => ?_); go_simp; (try go_bits); refine hK _ _ ?_; clear hK K)
  refine wpList_nil ?_
  clear hK1
  rw [← figsf_0 n K] at MF
  repeat ((fail_if_success (with_reducible (show wpList _ _ _ _ _ _))); go_step)
  iterate 3 (refine wpList_step (fun K hK => ?_); go_simp; (try go_bits); refine hK _ _ ?_; clear hK K)
  refine wpList_nil ?_
  repeat ((fail_if_success (with_reducible (show wpList _ _ _ _ _ _))); go_step)
  go_loopw [13] (fun i wr => ∃ k : Nat, k ≤ len ∧ i = .int .i64 (k : Int) ∧ Has wr w.heap.size (row .u32 K (figsf n k)) 91 ∧ Below w.heap.size w wr) (fun i _ => (len - (intOf i).toNat))
  case atStart => exact ⟨0, Nat.zero_le _, rfl, MF.out, HB.out⟩
  case round =>
    clear MF HB
    obtain ⟨k, hk, rfl, mF, hB⟩ := hrel
    rcases Nat.lt_or_ge k len with hlt | hge
    · rcases MB.out with h0 | ⟨b, o, rfl, hbl, hcb⟩
      · omega
      have kq : (k : Int) < (len : Int) := by omega
      have hc1 := (hB.cell (p := ⟨b, o + k, none⟩) hbl).trans (hcb k hlt)
      clear hcb
      obtain ⟨c, hc⟩ : ∃ c, n / 256 ^ k % 256 = c := ⟨_, rfl⟩
      have lc : c < 256 := by omega
      rw [dg_nat, hc] at hc1
      have MF := Lib.hid mF; clear mF
      have HB := Lib.hid hB; clear hB
      have Hc := Lib.hid hc; clear hc
      repeat ((fail_if_success (with_reducible (show wpList _ _ _ _ _ _))); go_step)
      (refine wpList_step (fun K hK => ?_); go_simp; (try go_bits); refine hK _ _ ?_; clear hK K)
      refine wpList_nil ?_
      repeat ((fail_if_success (with_reducible (show wpList _ _ _ _ _ _))); go_step)
      iterate 5 (refine wpList_step (fun K hK => ?_); go_simp; (try go_bits); refine hK _ _ ?_; clear hK K)
      refine wpList_nil ?_
      clear hc1
      repeat ((fail_if_success (with_reducible (show wpList _ _ _ _ _ _))); go_step)
      obtain ⟨j, hj⟩ : ∃ j, j = k / 2 := ⟨_, rfl⟩
      have hjK : j < K := by omega
      have hq1 : (k : Int).tdiv 2 = (j : Int) := by rw [Int.tdiv_eq_ediv_of_nonneg (by omega)]; omega
      have hq2 : (k : Int) / 2 = (j : Int) := by omega
      rcases Nat.mod_two_eq_zero_or_one k with he | he
      · have hm1 : (k : Int).tmod 2 = 0 := by rw [Int.tmod_eq_emod_of_nonneg (by omega)]; omega
        have hm2 : (k : Int) % 2 = 0 := by omega
        have hk2 : k = 2 * j := by omega
        have hol := or_low c lc
        have hjb : (j : Int) < (K : Int) := by omega
        have hwj : IntKind.i64.wrap (j : Int) = (j : Int) := by rw [IntKind.wrap_i64]; omega
        have hw0 : IntKind.i64.wrap 0 = 0 := by decide
        have hwc : IntKind.u32.wrap (c : Int) = (c : Int) := by rw [IntKind.wrap_u32]; omega
        have hcs : (wr.cell? ⟨w.heap.size, j, none⟩).isSome = true := by rw [MF.out.cell j hjK]; rfl
        clear hj
        subst hk2
        have hup : (c : Int) = dg 256 n (2 * j) := by rw [dg_nat, Hc.out]
        have He := Lib.hid he; clear he
        have Hup := Lib.hid hup; clear hup
        refine wp_region_noPanic ?_
        refine wp_region_goS (fun w' => Has w' (w.heap.size) (row .u32 K (figsf n (2 * j))) 91) 13 14 #[ff,ff,ff,ff,ff,ff,ff,ff,ff,ff,ff,ff,ff,ff] (by kernel_rfl) rfl rfl ?_
        replace MF := Lib.hid (MF.out.drew)
        replace HB := Lib.hid (below_drewN HB.out 1)
        obtain ⟨yw101, hwyw101⟩ : ∃ ww, ww = wr.drew := ⟨_, rfl⟩
        rw [← hwyw101] at MF ⊢
        have kq : Below w.heap.size w yw101 := by rw [hwyw101]; exact HB.out
        clear HB; have HB := Lib.hid kq; clear kq hwyw101
        refine go_take2 0 18 #[tt,ff,ff,ff,ff,ff,ff,ff,ff,ff,ff,ff,ff,ff] (v := ?uv1) rfl rfl rfl (by kernel_rfl) (Or.inl ⟨by rfl, ?uy1⟩) (MF.out) ?urest1
        case uy1 => (intro _ _; go_simp; try with_reducible rfl)
        (try simp only [sI, sS, sZ])
        refine go_take2 1 19 #[tt,tt,ff,ff,ff,ff,ff,ff,ff,ff,ff,ff,ff,ff] (v := ?uv2) rfl rfl rfl (by kernel_rfl) (Or.inl ⟨by rfl, ?uy2⟩) (MF.out) ?urest2
        case uy2 => (intro _ _; go_simp; try with_reducible rfl)
        (try simp only [sI, sS, sZ])
        refine go_take2 2 20 #[tt,tt,tt,ff,ff,ff,ff,ff,ff,ff,ff,ff,ff,ff] (v := ?uv3) rfl rfl rfl (by kernel_rfl) (Or.inl ⟨by rfl, ?uy3⟩) (MF.out) ?urest3
        case uy3 => (intro _ _; go_simp; try with_reducible rfl)
        (try simp only [sI, sS, sZ])
        refine go_take2 3 21 #[tt,tt,tt,tt,ff,ff,ff,ff,ff,ff,ff,ff,ff,ff] (v := ?uv4) rfl rfl rfl (by kernel_rfl) (Or.inl ⟨by rfl, ?uy4⟩) (MF.out) ?urest4
        case uy4 => (intro _ _; go_simp; try with_reducible rfl)
        (try simp only [sI, sS, sZ])
        refine go_take2 4 22 #[tt,tt,tt,tt,tt,ff,ff,ff,ff,ff,ff,ff,ff,ff] rfl rfl rfl (by kernel_rfl) (yieldsIf_loadc (by rfl) 91 _ rfl (w.heap.size) (j) rfl (.int .u32 0) _ (fun _ h => (by rw [Has.cell h j hjK, figsf_even])) Try.underlying91 rfl) (MF.out) ?_
        (try simp only [sI, sS, sZ])
        refine go_take2 5 23 #[tt,tt,tt,tt,tt,tt,ff,ff,ff,ff,ff,ff,ff,ff] (v := ?uv5) rfl rfl rfl (by kernel_rfl) (Or.inl ⟨by rfl, ?uy5⟩) (MF.out) ?urest5
        case uy5 => (intro _ _; go_simp; try with_reducible rfl)
        (try simp only [sI, sS, sZ])
        refine go_take2 6 24 #[tt,tt,tt,tt,tt,tt,tt,ff,ff,ff,ff,ff,ff,ff] (v := ?uv6) rfl rfl rfl (by kernel_rfl) (Or.inl ⟨by rfl, ?uy6⟩) (MF.out) ?urest6
        case uy6 => (intro _ _; go_simp; try with_reducible rfl)
        (try simp only [sI, sS, sZ])
        refine go_take2 7 25 #[tt,tt,tt,tt,tt,tt,tt,tt,ff,ff,ff,ff,ff,ff] (v := ?uv7) rfl rfl rfl (by kernel_rfl) (Or.inl ⟨by rfl, ?uy7⟩) (MF.out) ?urest7
        case uy7 => (intro _ _; go_simp; try with_reducible rfl)
        (try simp only [sI, sS, sZ])
        refine go_take2 8 26 #[tt,tt,tt,tt,tt,tt,tt,tt,tt,ff,ff,ff,ff,ff] (v := ?uv8) rfl rfl rfl (by kernel_rfl) (Or.inl ⟨by rfl, ?uy8⟩) (MF.out) ?urest8
        case uy8 => (intro _ _; go_simp; try with_reducible rfl)
        (try simp only [sI, sS, sZ])
        refine go_take2 9 27 #[tt,tt,tt,tt,tt,tt,tt,tt,tt,tt,ff,ff,ff,ff] (v := ?uv9) rfl rfl rfl (by kernel_rfl) (Or.inl ⟨by rfl, ?uy9⟩) (MF.out) ?urest9
        case uy9 => (intro _ _; go_simp; try with_reducible rfl)
        (try simp only [sI, sS, sZ])
        refine go_take2 10 28 #[tt,tt,tt,tt,tt,tt,tt,tt,tt,tt,tt,ff,ff,ff] (v := ?uv10) rfl rfl rfl (by kernel_rfl) (Or.inl ⟨by rfl, ?uy10⟩) (MF.out) ?urest10
        case uy10 => (intro _ _; go_simp; try with_reducible rfl)
        (try simp only [sI, sS, sZ])
        refine go_take2 11 29 #[tt,tt,tt,tt,tt,tt,tt,tt,tt,tt,tt,tt,ff,ff] (v := ?uv11) rfl rfl rfl (by kernel_rfl) (Or.inl ⟨by rfl, ?uy11⟩) (MF.out) ?urest11
        case uy11 => (intro _ _; go_simp; try with_reducible rfl)
        (try simp only [sI, sS, sZ])
        refine go_take2 12 30 #[tt,tt,tt,tt,tt,tt,tt,tt,tt,tt,tt,tt,tt,ff] (v := ?uv12) rfl rfl rfl (by kernel_rfl) (Or.inl ⟨by rfl, ?uy12⟩) (MF.out) ?urest12
        case uy12 => (intro _ _; go_simp; try with_reducible rfl)
        (try simp only [sI, sS, sZ])
        refine wpBut_r1 (i := 13) (by kernel_rfl) ?_
        refine go_storec 13 #[tt,tt,tt,tt,tt,tt,tt,tt,tt,tt,tt,tt,tt,tt] rfl rfl rfl (by rfl) 91 _ _ rfl (w.heap.size) (j) (.int .u32 ((c : Int))) rfl rfl (by rw [MF.out.cell j hjK]; rfl) (MF.out.frozen _) (by kernel_rfl) rfl rfl ⟨fun h => (h rfl).elim, ?_⟩
        have kq := MF.out.set (j) ((c : Int)); rw [figsf_upd_even n j _ Hup.out] at kq; clear MF; have MF := Lib.hid kq; clear kq
        replace HB := Lib.hid (HB.out.setCell (p := ⟨w.heap.size, j, none⟩) (show w.heap.size ≤ w.heap.size by omega) (.int .u32 ((c : Int))))
        obtain ⟨yw102, hwyw102⟩ : ∃ ww, ww = yw101.setCell ⟨w.heap.size, j, none⟩ (.int .u32 ((c : Int))) := ⟨_, rfl⟩
        rw [← hwyw102] at MF HB ⊢
        clear hwyw102
        (try simp only [sI, sS, sZ])
        refine wpBut_done (by kernel_rfl) (NoPanic.normal ?_)
        repeat ((fail_if_success (with_reducible (show wpList _ _ _ _ _ _))); go_step)
        iterate 2 (refine wpList_step (fun K hK => ?_); go_simp; (try go_bits); refine hK _ _ ?_; clear hK K)
        refine wpList_nil ?_
        go_roundw
        case measure => simp [intOf]; omega
        case rel => (repeat apply Exists.intro); exact ⟨⟨2 * j + 1, by omega, by go_num, MF.out, HB.out⟩, rfl⟩
      · have hm1 : (k : Int).tmod 2 = 1 := by rw [Int.tmod_eq_emod_of_nonneg (by omega)]; omega
        have hm2 : (k : Int) % 2 = 1 := by omega
        have hk2 : k = 2 * j + 1 := by omega
        obtain ⟨x, hx⟩ : ∃ x, n / 256 ^ (2 * j) % 256 = x := ⟨_, rfl⟩
        have lx : x < 256 := by omega
        obtain ⟨v, hv⟩ : ∃ v, v = x + 256 * c := ⟨_, rfl⟩
        have hol := or_high x c lx lc
        obtain ⟨c8, hc8⟩ : ∃ c8, c8 = c * 256 := ⟨_, rfl⟩
        rw [← hv, ← hc8] at hol
        have hsh : IntKind.u32.wrap ((c : Int) * 256) = (c8 : Int) := by rw [IntKind.wrap_u32]; omega
        clear hc8
        have hjb : (j : Int) < (K : Int) := by omega
        have hwj : IntKind.i64.wrap (j : Int) = (j : Int) := by rw [IntKind.wrap_i64]; omega
        have hw0 : IntKind.i64.wrap 8 = 8 := by decide
        have hwc : IntKind.u32.wrap (c : Int) = (c : Int) := by rw [IntKind.wrap_u32]; omega
        have hfx : figsf n k j = (x : Int) := by rw [hk2, figsf_odd, dg_nat, hx]
        have hfu : upd (figsf n k) j (v : Int) = figsf n (k + 1) := by
          have hc := Hc.out
          rw [hk2] at hc ⊢
          refine figsf_upd_odd n j _ ?_
          rw [dg_nat, dg_nat, hc, hx, hv]; omega
        clear hj hk2
        have He := Lib.hid he; clear he
        have Hfx := Lib.hid hfx; clear hfx
        have Hfu := Lib.hid hfu; clear hfu
        have Hx := Lib.hid hx; clear hx
        have Hv := Lib.hid hv; clear hv
        refine wp_region_noPanic ?_
        refine wp_region_goS (fun w' => Has w' (w.heap.size) (row .u32 K (figsf n k)) 91) 13 14 #[ff,ff,ff,ff,ff,ff,ff,ff,ff,ff,ff,ff,ff,ff] (by kernel_rfl) rfl rfl ?_
        replace MF := Lib.hid (MF.out.drew)
        replace HB := Lib.hid (below_drewN HB.out 1)
        obtain ⟨yw101, hwyw101⟩ : ∃ ww, ww = wr.drew := ⟨_, rfl⟩
        rw [← hwyw101] at MF ⊢
        have kq : Below w.heap.size w yw101 := by rw [hwyw101]; exact HB.out
        clear HB; have HB := Lib.hid kq; clear kq hwyw101
        refine go_take2 0 18 #[tt,ff,ff,ff,ff,ff,ff,ff,ff,ff,ff,ff,ff,ff] (v := ?uv13) rfl rfl rfl (by kernel_rfl) (Or.inl ⟨by rfl, ?uy13⟩) (MF.out) ?urest13
        case uy13 => (intro _ _; go_simp; try with_reducible rfl)
        (try simp only [sI, sS, sZ])
        refine go_take2 1 19 #[tt,tt,ff,ff,ff,ff,ff,ff,ff,ff,ff,ff,ff,ff] (v := ?uv14) rfl rfl rfl (by kernel_rfl) (Or.inl ⟨by rfl, ?uy14⟩) (MF.out) ?urest14
        case uy14 => (intro _ _; go_simp; try with_reducible rfl)
        (try simp only [sI, sS, sZ])
        refine go_take2 2 20 #[tt,tt,tt,ff,ff,ff,ff,ff,ff,ff,ff,ff,ff,ff] (v := ?uv15) rfl rfl rfl (by kernel_rfl) (Or.inl ⟨by rfl, ?uy15⟩) (MF.out) ?urest15
        case uy15 => (intro _ _; go_simp; try with_reducible rfl)
        (try simp only [sI, sS, sZ])
        refine go_take2 3 21 #[tt,tt,tt,tt,ff,ff,ff,ff,ff,ff,ff,ff,ff,ff] (v := ?uv16) rfl rfl rfl (by kernel_rfl) (Or.inl ⟨by rfl, ?uy16⟩) (MF.out) ?urest16
        case uy16 => (intro _ _; go_simp; try with_reducible rfl)
        (try simp only [sI, sS, sZ])
        refine go_take2 4 22 #[tt,tt,tt,tt,tt,ff,ff,ff,ff,ff,ff,ff,ff,ff] rfl rfl rfl (by kernel_rfl) (yieldsIf_loadc (by rfl) 91 _ rfl (w.heap.size) (j) rfl (.int .u32 (x : Int)) _ (fun _ h => (by rw [Has.cell h j hjK, Hfx.out])) Try.underlying91 rfl) (MF.out) ?_
        (try simp only [sI, sS, sZ])
        refine go_take2 5 23 #[tt,tt,tt,tt,tt,tt,ff,ff,ff,ff,ff,ff,ff,ff] (v := ?uv17) rfl rfl rfl (by kernel_rfl) (Or.inl ⟨by rfl, ?uy17⟩) (MF.out) ?urest17
        case uy17 => (intro _ _; go_simp; try with_reducible rfl)
        (try simp only [sI, sS, sZ])
        refine go_take2 6 24 #[tt,tt,tt,tt,tt,tt,tt,ff,ff,ff,ff,ff,ff,ff] (v := ?uv18) rfl rfl rfl (by kernel_rfl) (Or.inl ⟨by rfl, ?uy18⟩) (MF.out) ?urest18
        case uy18 => (intro _ _; go_simp; try with_reducible rfl)
        (try simp only [sI, sS, sZ])
        refine go_take2 7 25 #[tt,tt,tt,tt,tt,tt,tt,tt,ff,ff,ff,ff,ff,ff] (v := ?uv19) rfl rfl rfl (by kernel_rfl) (Or.inl ⟨by rfl, ?uy19⟩) (MF.out) ?urest19
        case uy19 => (intro _ _; go_simp; try with_reducible rfl)
        (try simp only [sI, sS, sZ])
        refine go_take2 8 26 #[tt,tt,tt,tt,tt,tt,tt,tt,tt,ff,ff,ff,ff,ff] (v := ?uv20) rfl rfl rfl (by kernel_rfl) (Or.inl ⟨by rfl, ?uy20⟩) (MF.out) ?urest20
        case uy20 => (intro _ _; go_simp; try with_reducible rfl)
        (try simp only [sI, sS, sZ])
        refine go_take2 9 27 #[tt,tt,tt,tt,tt,tt,tt,tt,tt,tt,ff,ff,ff,ff] (v := ?uv21) rfl rfl rfl (by kernel_rfl) (Or.inl ⟨by rfl, ?uy21⟩) (MF.out) ?urest21
        case uy21 => (intro _ _; go_simp; try with_reducible rfl)
        (try simp only [sI, sS, sZ])
        refine go_take2 10 28 #[tt,tt,tt,tt,tt,tt,tt,tt,tt,tt,tt,ff,ff,ff] (v := ?uv22) rfl rfl rfl (by kernel_rfl) (Or.inl ⟨by rfl, ?uy22⟩) (MF.out) ?urest22
        case uy22 => (intro _ _; go_simp; try with_reducible rfl)
        (try simp only [sI, sS, sZ])
        refine go_take2 11 29 #[tt,tt,tt,tt,tt,tt,tt,tt,tt,tt,tt,tt,ff,ff] (v := ?uv23) rfl rfl rfl (by kernel_rfl) (Or.inl ⟨by rfl, ?uy23⟩) (MF.out) ?urest23
        case uy23 => (intro _ _; go_simp; try with_reducible rfl)
        (try simp only [sI, sS, sZ])
        refine go_take2 12 30 #[tt,tt,tt,tt,tt,tt,tt,tt,tt,tt,tt,tt,tt,ff] (v := ?uv24) rfl rfl rfl (by kernel_rfl) (Or.inl ⟨by rfl, ?uy24⟩) (MF.out) ?urest24
        case uy24 => (intro _ _; go_simp; try with_reducible rfl)
        (try simp only [sI, sS, sZ])
        refine wpBut_r1 (i := 13) (by kernel_rfl) ?_
        refine go_storec 13 #[tt,tt,tt,tt,tt,tt,tt,tt,tt,tt,tt,tt,tt,tt] rfl rfl rfl (by rfl) 91 _ _ rfl (w.heap.size) (j) (.int .u32 ((v : Int))) rfl rfl (by rw [MF.out.cell j hjK]; rfl) (MF.out.frozen _) (by kernel_rfl) rfl rfl ⟨fun h => (h rfl).elim, ?_⟩
        have kq := MF.out.set (j) ((v : Int)); rw [Hfu.out] at kq; clear MF; have MF := Lib.hid kq; clear kq
        replace HB := Lib.hid (HB.out.setCell (p := ⟨w.heap.size, j, none⟩) (show w.heap.size ≤ w.heap.size by omega) (.int .u32 ((v : Int))))
        obtain ⟨yw102, hwyw102⟩ : ∃ ww, ww = yw101.setCell ⟨w.heap.size, j, none⟩ (.int .u32 ((v : Int))) := ⟨_, rfl⟩
        rw [← hwyw102] at MF HB ⊢
        clear hwyw102
        (try simp only [sI, sS, sZ])
        refine wpBut_done (by kernel_rfl) (NoPanic.normal ?_)
        repeat ((fail_if_success (with_reducible (show wpList _ _ _ _ _ _))); go_step)
        iterate 2 (refine wpList_step (fun K hK => ?_); go_simp; (try go_bits); refine hK _ _ ?_; clear hK K)
        refine wpList_nil ?_
        go_roundw
        case measure => simp [intOf]; omega
        case rel => (repeat apply Exists.intro); exact ⟨⟨k + 1, by omega, by go_num, MF.out, HB.out⟩, rfl⟩
    · have hkl : k = len := by omega
      subst hkl
      clear hk hge
      have mF2 := mF
      rw [Hfin.out] at mF2
      have MF := Lib.hid mF; clear mF
      have HB := Lib.hid hB; clear hB
      repeat ((fail_if_success (with_reducible (show wpList _ _ _ _ _ _))); go_step)
      (refine wpList_step (fun K hK => ?_); go_simp; (try go_bits); refine hK _ _ ?_; clear hK K)
      refine wpList_nil ?_
      repeat ((fail_if_success (with_reducible (show wpList _ _ _ _ _ _))); go_step)
      iterate 2 (refine wpList_step (fun K hK => ?_); go_simp; (try go_bits); refine hK _ _ ?_; clear hK K)
      refine wpList_nil ?_
      go_wp2_with fail
      go_ret
      exact ⟨⟨_, Nat.le_refl _, rfl, mF2⟩, HB.out⟩
end Go.Proofs.Ytjiagjonlcadiaa
end
section
namespace Go.Proofs.Ytjiagjonlcadiaa
open Go.RowKit Go.Lib Go.Shelf

attribute [local go_sem] Oper.semAt_some

theorem al90 (w : World) : (Instr.alloc 90 true (.tuple #[])).run Try.prog w = .ok (.pointer (some ⟨w.heap.size, 0, none⟩)) (w.alloc (.cells #[.pointer none] 90)) := by go_simp
theorem bd93z : Try.prog.built 93 [] = some (r17 0) := by kernel_rfl
theorem z24k : ((#[.int .u8 0, .int .u8 0, .int .u8 0, .int .u8 0, .int .u8 0, .int .u8 0, .int .u8 0, .int .u8 0, .int .u8 0, .int .u8 0, .int .u8 0, .int .u8 0, .int .u8 0, .int .u8 0, .int .u8 0, .int .u8 0, .int .u8 0, .int .u8 0, .int .u8 0, .int .u8 0, .int .u8 0, .int .u8 0, .int .u8 0, .int .u8 0, .int .u8 0, .int .u8 0, .int .u8 0, .int .u8 0, .int .u8 0, .int .u8 0, .int .u8 0, .int .u8 0] : Array Value)) = k32 0 := by kernel_rfl
theorem wpr_exit : True := trivial
theorem top_step (N len k : Nat) (hk : k < len) : N / 65536 ^ (len - k) * 65536 + N / 65536 ^ (len - 1 - k) % 65536 = N / 65536 ^ (len - (k + 1)) := by
  rw [show len - k = len - 1 - k + 1 by omega, show len - (k + 1) = len - 1 - k by omega, Nat.pow_succ, ← Nat.div_div_eq_div_mul]
  omega
theorem bit_step (T f j b : Nat) (hj : j < 16) (hb : f / 2 ^ j % 2 = b) : 2 * (T * 2 ^ (16 - (j + 1)) + f / 2 ^ (j + 1)) + b = T * 2 ^ (16 - j) + f / 2 ^ j := by
  rw [show 16 - j = 16 - (j + 1) + 1 by omega, Nat.pow_succ 2 (16 - (j + 1)), Nat.pow_succ 2 j, ← Nat.div_div_eq_div_mul, ← Nat.mul_assoc]
  generalize T * 2 ^ (16 - (j + 1)) = P
  generalize f / 2 ^ j = q at *
  omega
theorem bit_rest (X b : Nat) : (2 * (X % L0) + b) % L0 = (2 * X + b) % L0 := by
  rw [Nat.add_mod, Nat.mul_mod, Nat.mod_mod, ← Nat.mul_mod, ← Nat.add_mod]
theorem bit_and (f j b : Nat) (hf : f < 65536) (hb : f / 2 ^ j % 2 = b) : bits .and .u32 ((f : Int) / 2 ^ j) 1 = (b : Int) := by
  have e : ((f : Int) / 2 ^ j) = ((f / 2 ^ j : Nat) : Int) := by rw [Int.natCast_ediv, Int.natCast_pow]; rfl
  have hl : f / 2 ^ j ≤ f := Nat.div_le_self _ _
  rw [e]
  generalize f / 2 ^ j = q at *
  have h := bits_mask .u32 32 (by decide) wu32 1 (by decide) (q : Int) (by omega) (by omega)
  rw [show ((2 : Int) ^ 1 - 1) = 1 by decide] at h
  rw [h, ← hb]
  omega

/-- so far k bytes of v -/
def mixb (v k : Nat) : Nat → Int := fun j => if j < k then dg 256 v j else 0
theorem mixb_0 (v : Nat) : row .u8 32 (mixb v 0) = k32 0 := row_ext _ _ _ _ fun j _ => by
  unfold mixb dg; rw [if_neg (by omega), Nat.zero_div]; rfl
theorem mixb_32 (v : Nat) : row .u8 32 (mixb v 32) = k32 v := row_ext _ _ _ _ fun j hj => by unfold mixb; rw [if_pos hj]
theorem mixb_upd (v k : Nat) (x : Int) (h : x = dg 256 v k) : upd (mixb v k) k x = mixb v (k + 1) := by
  funext j
  unfold upd mixb
  by_cases e : j = k
  · rw [if_pos e, if_pos (by omega), h, e]
  · rw [if_neg e]
    by_cases e2 : j < k
    · rw [if_pos e2, if_pos (by omega)]
    · rw [if_neg e2, if_neg (by omega)]
/-- block D holds the rounds' calls that were put off: none -/
def DefAt0 (W : World) (D : Nat) : Prop := W.heap[D]? = some (.deferred (some []))
section
variable {W W' : World} {D : Nat}
theorem DefAt0.call (h : DefAt0 W D) (hb : Below W.heap.size W W') : DefAt0 W' D := (hb.block D (Array.getElem?_eq_some_iff.1 h).1).trans h
theorem DefAt0.other (h : DefAt0 W D) (a : Addr) (v : Value) (hb : D ≠ a.block) : DefAt0 (W.setCell a v) D := (heap_setCell_other W a D v hb).trans h
theorem DefAt0.setRow_other (h : DefAt0 W D) (g : Nat) (c : Array Value) (hg : D ≠ g) : DefAt0 (W.setRow g c) D := (Go.setRow_other W g D c hg).trans h
end

set_option maxRecDepth 100000 in
set_option linter.unusedSimpArgs false in
set_option linter.unusedVariables false in
set_option maxHeartbeats 8000000 in
theorem divide_any (b len cap N : Nat) (hlen : len ≤ 1000) (hN : N < 65536 ^ len) (w : World) (hf : Figs w b len (dg 65536 N)) :
    Calls Try.prog 69 #[.slice (some ⟨b, 0, none⟩) len cap] w fun e w' => e = .returned (.agg (k32 (N % L0))) ∧ Below w.heap.size w w' := by
  have hb0 := hf.lt
  have MG := Lib.hid hf
  have HN := Lib.hid hN
  clear hf hN
  refine (callsIn_wide (n := 3)).1 (callsIn_of_wp_marks Try.func69 rfl trivial (wpIn_wide.2 ?_) rfl)
  simp only [Try.ntmps69, List.size_toArray, List.length_cons, List.length_nil, Nat.reduceAdd, Nat.reduceSub, Array.replicate_succ, Array.replicate_zero, List.push_toArray, List.append_toArray, List.nil_append, List.cons_append]
  repeat ((fail_if_success (with_reducible (show wpList _ _ _ _ _ _))); go_step)
  (refine wpList_step (fun K hK => ?_); go_simp; (try go_bits); refine hK _ _ ?_; clear hK K)
  refine wpList_nil ?_
  rw [z24k]
  have M2 := Lib.hid (Has.new w (k32 0) 24)
  have HB := Lib.hid (below_1 w (.cells (k32 0) 24))
  replace MG := Lib.hid (MG.out.alloc (.cells (k32 0) 24))
  obtain ⟨yw1, hwyw1⟩ : ∃ ww, ww = w.alloc (.cells (k32 0) 24) := ⟨_, rfl⟩
  rw [← hwyw1] at MG M2 HB ⊢
  clear hwyw1
  repeat ((fail_if_success (with_reducible (show wpList _ _ _ _ _ _))); go_step)
  refine wpList_built (by rfl) 93 _ rfl _ (by rfl) (r17 0) (bd93z) 7 rfl ?_
  (try simp only [Act.put, sI, sS, sZ])
  have gR := M2.out.lt
  refine wpList_step (fun K hK => ?_)
  go_simp
  refine hK _ _ ?_
  clear hK K
  have hb := below_1 yw1 (.cells (r17 0) 93)
  have nwMR := Has.new yw1 (r17 0) 93
  obtain ⟨yw2, hwyw2⟩ : ∃ ww, ww = yw1.alloc (.cells (r17 0) 93) := ⟨_, rfl⟩
  rw [← hwyw2] at hb nwMR ⊢
  clear hwyw2
  replace MG := Lib.hid (MG.out.call hb)
  replace M2 := Lib.hid (M2.out.call hb)
  replace HB := Lib.hid (held_next HB.out hb)
  clear hb
  have MR := Lib.hid nwMR; clear nwMR
  (try simp only [Act.put, sI, sS, sZ])
  refine wpList_alloc (by rfl) 90 rfl _ al90 3 rfl ?_
  intro yw3 hw2
  have hlt4 := MG.out.lt
  have hlt5 := M2.out.lt
  have hlt6 := MR.out.lt
  have hsz := HB.out.size
  replace MG := Lib.hid (MG.out.alloc (.cells #[.pointer none] 90))
  replace M2 := Lib.hid (M2.out.alloc (.cells #[.pointer none] 90))
  replace MR := Lib.hid (MR.out.alloc (.cells #[.pointer none] 90))
  have MP := Lib.hid (Has.new yw2 #[.pointer none] 90)
  replace HB := Lib.hid (HB.out.alloc hsz (.cells #[.pointer none] 90))
  rw [← hw2] at MG M2 MR MP HB; clear hw2
  (try simp only [Act.put, sI, sS, sZ])
  
  refine wpList_store1 (by rfl) 90 _ _ rfl rfl (yw2.heap.size) (.pointer (some ⟨yw1.heap.size, 0, none⟩)) rfl rfl _ _ MP.out (by kernel_rfl) rfl rfl ?_
  intro yw7 hw2
  replace MG := Lib.hid (MG.out.other ⟨yw2.heap.size, 0, none⟩ (.pointer (some ⟨yw1.heap.size, 0, none⟩)) (show _ ≠ yw2.heap.size by omega))
  replace M2 := Lib.hid (M2.out.other ⟨yw2.heap.size, 0, none⟩ (.pointer (some ⟨yw1.heap.size, 0, none⟩)) (show _ ≠ yw2.heap.size by omega))
  replace MR := Lib.hid (MR.out.other ⟨yw2.heap.size, 0, none⟩ (.pointer (some ⟨yw1.heap.size, 0, none⟩)) (show _ ≠ yw2.heap.size by omega))
  replace MP := Lib.hid (MP.out.setAt 0 (.pointer (some ⟨yw1.heap.size, 0, none⟩)))
  replace HB := Lib.hid (HB.out.setCell (p := ⟨yw2.heap.size, 0, none⟩) (show w.heap.size ≤ yw2.heap.size by omega) (.pointer (some ⟨yw1.heap.size, 0, none⟩)))
  rw [← hw2] at MG M2 MR MP HB; clear hw2
  replace MP : RowKit.Hid (Has yw7 (yw2.heap.size) #[.pointer (some ⟨yw1.heap.size, 0, none⟩)] 90) := MP
  refine wpList_nil ?_
  have gP : yw1.heap.size < yw2.heap.size := by omega
  repeat ((fail_if_success (with_reducible (show wpList _ _ _ _ _ _))); go_step)
  have MYl := MP.out.lt
  (refine wpList_step (fun K hK => ?_); go_simp; (try go_bits); refine hK _ _ ?_; clear hK K)
  refine wpList_call (by rfl) rfl rfl (by rfl) ent103 (by rfl) (bkf_call _ _ _ _) 10 rfl ?_
  rintro e uw1 ⟨⟨rfl, hbs⟩, hb⟩
  replace MG := Lib.hid (MG.out.call hb)
  replace M2 := Lib.hid (M2.out.call hb)
  replace MR := Lib.hid (MR.out.call hb)
  replace MP := Lib.hid (MP.out.call hb)
  replace HB := Lib.hid (held_next HB.out hb)
  have MS := Lib.hid hbs; clear hbs
  refine ⟨_, rfl, ?_⟩
  clear hb
  (try simp only [Act.put, sI, sS, sZ])
  refine wpList_nil ?_
  obtain ⟨BS, hBS⟩ : ∃ B, B = yw7.heap.size := ⟨_, rfl⟩
  rw [← hBS] at MS MYl ⊢
  clear hBS
  repeat ((fail_if_success (with_reducible (show wpList _ _ _ _ _ _))); go_step)
  have hlS := MS.out.lt
  have hlb := MG.out.lt
  have hsz := HB.out.size
  have hst := bkf_seq BS b len cap (dg 65536 N) (by omega) uw1 MS.out MG.out
  have hf : ∀ (k : Nat) (t : Array Value), ((#[11] : Array Tmp).zip #[Value.int .u32 (dg 65536 N (len - 1 - k))]).foldl (fun t (p, v) => t.setIfInBounds p v) t = t.setIfInBounds 11 (.int .u32 (dg 65536 N (len - 1 - k))) := fun k t => by simp
  refine range_z (gf := 115) (lb := #[.pointer (some ⟨BS, 0, none⟩)]) rfl ent115 hst (Below.refl _ _) (fun _ => rfl) (fun j hj => by rcases hj with rfl | rfl <;> omega)
    (fun s k V => uw1.heap.size ≤ s ∧ Has V yw1.heap.size (r17 (N / 65536 ^ (len - k) % L0)) 93 ∧ Has V yw2.heap.size #[.pointer (some ⟨yw1.heap.size, 0, none⟩)] 90 ∧ Has V w.heap.size (k32 0) 24 ∧ Below w.heap.size w V) ?h0 ?hz (fun k t => t.setIfInBounds 4 (.int .u32 (dg 65536 N (len - 1 - k)))) ?assign ?body ?done
  case h0 =>
    intro W1 hb hs
    refine ⟨hb.size, ?_, MP.out.below hb (by omega), M2.out.below hb (by omega), HB.out.trans (hb.mono hsz)⟩
    have := MR.out.below hb (by omega)
    rwa [Nat.sub_zero, Nat.div_eq_of_lt HN.out, Nat.zero_mod]
  case hz =>
    rintro s k A B ⟨h1, h2, h3, h4, h5⟩ hq
    exact ⟨h1, (hq.block _ (by omega)).trans h2, (hq.block _ (by omega)).trans h3, (hq.block _ (by omega)).trans h4, hq.below h5 hsz⟩
  case assign =>
    intro m l2 k V K hK
    simp only [hf, sI, sS, sZ] at hK ⊢
    gi_wp2
    exact hK
  case body =>
    rintro m l2 s k V hs hsV hk ⟨h1, h2, h3, h4, h5⟩
    obtain ⟨f, hfd⟩ : ∃ f, N / 65536 ^ (len - 1 - k) % 65536 = f := ⟨_, rfl⟩
    have lf : f < 65536 := by omega
    have htop := top_step N len k hk
    rw [hfd] at htop
    have hfd2 : dg 65536 N (len - 1 - k) = (f : Int) := by rw [dg_nat, hfd]
    obtain ⟨T, hT⟩ : ∃ T, T = N / 65536 ^ (len - k) := ⟨_, rfl⟩
    rw [← hT] at h2 htop
    have Htop := Lib.hid htop
    simp only [hf, hfd2, sI, sS, sZ]
    have KO := But.refl yw1.heap.size V
    clear hf hst MG M2 MR MP MS HB hfd hfd2 hT htop
    have MR := Lib.hid h2
    have MP := Lib.hid h3
    have M2 := Lib.hid h4
    have HB := Lib.hid h5
    replace KO := Lib.hid KO
    clear h2 h3 h4 h5
    repeat ((fail_if_success (with_reducible (show wpListIn _ _ _ _ _ _ _ _))); gi_step)
    refine wpr_lit (by kernel_rfl) ?_
    (refine wpList_step (fun K hK => ?_); go_simp; (try go_bits); refine hK _ _ ?_; clear hK K)
    refine wpList_nil ?_
    repeat ((fail_if_success (with_reducible (show wpListIn _ _ _ _ _ _ _ _))); gi_step)
    gi_loopw [5] (fun i wr => ∃ j : Nat, j ≤ 16 ∧ i = .int .i64 ((j : Int) - 1) ∧ Has wr yw1.heap.size (r17 ((T * 2 ^ (16 - j) + f / 2 ^ j) % L0)) 93 ∧ Has wr yw2.heap.size #[.pointer (some ⟨yw1.heap.size, 0, none⟩)] 90 ∧ Has wr w.heap.size (k32 0) 24 ∧ But yw1.heap.size V wr ∧ Below w.heap.size w wr) (fun i _ => (intOf i + 1).toNat)
    case atStart =>
      refine ⟨16, Nat.le_refl _, rfl, ?_, MP.out, M2.out, KO.out, HB.out⟩
      rw [show T * 2 ^ (16 - 16) + f / 2 ^ 16 = T by rw [Nat.sub_self, Nat.pow_zero, Nat.mul_one, Nat.div_eq_of_lt (show f < 2 ^ 16 by omega), Nat.add_zero]]
      exact MR.out
    case round =>
      clear MR MP M2 HB KO
      obtain ⟨j, hj, rfl, mR, mP, m2, kO, hB⟩ := hrel
      have MR := Lib.hid mR; clear mR
      have MP := Lib.hid mP; clear mP
      have M2 := Lib.hid m2; clear m2
      have KO := Lib.hid kO; clear kO
      have HB := Lib.hid hB; clear hB
      rcases Nat.eq_zero_or_pos j with hj0 | hj0
      · subst hj0
        repeat ((fail_if_success (with_reducible (show wpListIn _ _ _ _ _ _ _ _))); gi_step)
        refine wpr_lit (by kernel_rfl) ?_
        iterate 2 (refine wpList_step (fun K hK => ?_); go_simp; (try go_bits); refine hK _ _ ?_; clear hK K)
        refine wpList_nil ?_
        repeat ((fail_if_success (with_reducible (show wpListIn _ _ _ _ _ _ _ _))); gi_step)
        have hfin := MR.out
        rw [Nat.sub_zero, Nat.pow_zero, Nat.div_one, show (2 : Nat) ^ 16 = 65536 by decide, Htop.out] at hfin
        exact ⟨⟨h1, hfin, MP.out, M2.out, HB.out⟩, KO.out.size, fun q hq => KO.out.block q (by rcases hq with ⟨_, h⟩ | rfl | rfl <;> omega) (by rcases hq with ⟨h, _⟩ | rfl | rfl <;> omega)⟩
      · obtain ⟨i, rfl⟩ : ∃ i, j = i + 1 := ⟨j - 1, by omega⟩
        rw [show ((i + 1 : Nat) : Int) - 1 = (i : Int) by omega]
        have hi16 : i < 16 := by omega
        obtain ⟨bt, hbt⟩ : ∃ bt, f / 2 ^ i % 2 = bt := ⟨_, rfl⟩
        have lbt : bt < 2 := by omega
        have hand := bit_and f i bt lf hbt
        have hwj : IntKind.i64.wrap (i : Int) = (i : Int) := by rw [IntKind.wrap_i64]; omega
        have hstep := bit_step T f i bt hi16 hbt
        obtain ⟨X, hX⟩ : ∃ X, X = T * 2 ^ (16 - (i + 1)) + f / 2 ^ (i + 1) := ⟨_, rfl⟩
        rw [← hX] at hstep MR
        have hbr := bit_rest X bt
        rw [hstep] at hbr
        clear hX hj hj0 hbt hstep
        have Hbr := Lib.hid hbr; clear hbr
        repeat ((fail_if_success (with_reducible (show wpListIn _ _ _ _ _ _ _ _))); gi_step)
        refine wpr_lit (by kernel_rfl) ?_
        iterate 2 (refine wpList_step (fun K hK => ?_); go_simp; (try go_bits); refine hK _ _ ?_; clear hK K)
        refine wpList_nil ?_
        repeat ((fail_if_success (with_reducible (show wpListIn _ _ _ _ _ _ _ _))); gi_step)
        refine wpr_noPanic ?_
        refine wpr_goS (fun w' => Has w' (yw2.heap.size) (#[.pointer (some ⟨yw1.heap.size, 0, none⟩)]) 90) 99 6 #[ff,ff,ff,ff,ff,ff] (by kernel_rfl) rfl rfl ?_
        replace MR := Lib.hid (MR.out.drew)
        replace MP := Lib.hid (MP.out.drew)
        replace M2 := Lib.hid (M2.out.drew)
        replace KO := Lib.hid (KO.out.drew)
        replace HB := Lib.hid (below_drewN HB.out 1)
        obtain ⟨yw401, hwyw401⟩ : ∃ ww, ww = wr.drew := ⟨_, rfl⟩
        rw [← hwyw401] at MR MP M2 KO ⊢
        have kq : Below w.heap.size w yw401 := by rw [hwyw401]; exact HB.out
        clear HB; have HB := Lib.hid kq; clear kq hwyw401
        refine go_take2 0 16 #[tt,ff,ff,ff,ff,ff] rfl rfl rfl (by kernel_rfl) (yieldsIf_load1 (by rfl) 90 _ rfl (yw2.heap.size) rfl (.pointer (some ⟨yw1.heap.size, 0, none⟩)) _ (fun _ h => Has.one (h)) Try.underlying90 rfl) (MP.out) ?_
        (try simp only [sI, sS, sZ])
        refine go_take2 1 17 #[tt,tt,ff,ff,ff,ff] (v := ?uv1) rfl rfl rfl (by kernel_rfl) (Or.inl ⟨by rfl, ?uy1⟩) (MP.out) ?urest1
        case uy1 => (intro _ _; go_simp; try with_reducible rfl)
        (try simp only [sI, sS, sZ])
        refine go_take2 2 18 #[tt,tt,tt,ff,ff,ff] (v := ?uv2) rfl rfl rfl (by kernel_rfl) (Or.inl ⟨by rfl, ?uy2⟩) (MP.out) ?urest2
        case uy2 => (intro _ _; go_simp; try with_reducible rfl)
        (try simp only [sI, sS, sZ])
        refine go_take2 3 19 #[tt,tt,tt,tt,ff,ff] (v := ?uv3) rfl rfl rfl (by kernel_rfl) (Or.inl ⟨by rfl, ?uy3⟩) (MP.out) ?urest3
        case uy3 => (intro _ _; go_simp; try with_reducible rfl)
        (try simp only [sI, sS, sZ])
        refine go_take2 4 20 #[tt,tt,tt,tt,tt,ff] (v := ?uv4) rfl rfl rfl (by kernel_rfl) (Or.inl ⟨by rfl, ?uy4⟩) (MP.out) ?urest4
        case uy4 => (intro _ _; go_simp; try with_reducible rfl)
        (try simp only [sI, sS, sZ])
        refine wpBut_r1 (i := 5) (by kernel_rfl) ?_
        refine go_call 5 21 #[tt,tt,tt,tt,tt,tt] rfl rfl rfl (by rfl) rfl rfl (by rfl) ent104 (by rfl) (bit_any yw1.heap.size (X % L0) bt (Nat.mod_lt _ (by decide)) lbt _ MR.out) ?_
        rintro e uw401 ⟨rfl, hmU, hb⟩
        replace MR := Lib.hid hmU; clear hmU
        replace MP := Lib.hid (MP.out.but hb (by omega))
        replace M2 := Lib.hid (M2.out.but hb (by omega))
        replace KO := Lib.hid (But.trans KO.out hb)
        replace HB := Lib.hid (below_but HB.out hb (by omega) HB.out.size)
        rw [Hbr.out] at MR
        clear hb
        refine ⟨_, rfl, fun _ => MP.out, ?_⟩
        (try simp only [sI, sS, sZ])
        refine wpBut_done (by kernel_rfl) (NoPanic.normal ?_)
        clear hand hwj
        repeat ((fail_if_success (with_reducible (show wpListIn _ _ _ _ _ _ _ _))); gi_step)
        refine wpr_lit (by kernel_rfl) ?_
        iterate 3 (refine wpList_step (fun K hK => ?_); go_simp; (try go_bits); refine hK _ _ ?_; clear hK K)
        refine wpList_nil ?_
        go_roundw
        case measure => simp [intOf]
        case rel => (repeat apply Exists.intro); exact ⟨⟨i, by omega, rfl, MR.out, MP.out, M2.out, KO.out, HB.out⟩, rfl⟩
  case done =>
    rintro s V hs hsV ⟨h1, h2, h3, h4, h5⟩ hD
    rw [Nat.sub_self, Nat.pow_zero, Nat.div_one] at h2
    obtain ⟨v, hv⟩ : ∃ v, v = N % L0 := ⟨_, rfl⟩
    rw [← hv] at h2
    have Hv := Lib.hid hv
    have hD2 : DefAt0 V uw1.heap.size := hD
    clear hf hst MG M2 MR MP MS HB HN hv hD
    have m2 := h4
    rw [← mixb_0 v] at m2
    have MR := Lib.hid h2
    have MP := Lib.hid h3
    have M2 := Lib.hid m2
    have HB := Lib.hid h5
    have MD := Lib.hid hD2
    clear h2 h3 h4 h5 m2 hD2
    repeat ((fail_if_success (with_reducible (show wpList _ _ _ _ _ _))); go_step)
    (refine wpList_step (fun K hK => ?_); go_simp; (try go_bits); refine hK _ _ ?_; clear hK K)
    refine wpList_nil ?_
    repeat ((fail_if_success (with_reducible (show wpList _ _ _ _ _ _))); go_step)
    go_loopw [22] (fun i wr => ∃ k : Nat, k ≤ 32 ∧ i = .int .i64 (k : Int) ∧ Has wr yw1.heap.size (r17 v) 93 ∧ Has wr yw2.heap.size #[.pointer (some ⟨yw1.heap.size, 0, none⟩)] 90 ∧ Has wr w.heap.size (row .u8 32 (mixb v k)) 24 ∧ DefAt0 wr uw1.heap.size ∧ Below w.heap.size w wr) (fun i _ => (32 - (intOf i).toNat))
    case atStart => exact ⟨0, by omega, rfl, MR.out, MP.out, M2.out, MD.out, HB.out⟩
    case round =>
      clear MR MP M2 MD HB
      obtain ⟨k, hk, rfl, mR, mP, m2, mD, hB⟩ := hrel
      have MR := Lib.hid mR; clear mR
      have MP := Lib.hid mP; clear mP
      have M2 := Lib.hid m2; clear m2
      have MD := Lib.hid mD; clear mD
      have HB := Lib.hid hB; clear hB
      rcases Nat.lt_or_ge k 32 with hlt | hge
      · have kq : (k : Int) < 32 := by omega
        obtain ⟨j, hj⟩ : ∃ j, j = k / 2 := ⟨_, rfl⟩
        have hj17 : j < 17 := by omega
        have hjb : (j : Int) < 17 := by omega
        obtain ⟨x, hx⟩ : ∃ x, v / 65536 ^ j % 65536 = x := ⟨_, rfl⟩
        have lx : x < 65536 := by omega
        have hpc := MP.out.one
        have hc1 : wr.cell? ⟨yw1.heap.size, j, none⟩ = some (.int .u32 (x : Int)) := by
          have h := MR.out
          unfold r17 at h
          rw [h.cell j hj17, dg_nat, hx]
        have hcw : wr.cell? ⟨w.heap.size, k, none⟩ = some (.int .u8 0) := by rw [M2.out.cell k hlt]; unfold mixb; rw [if_neg (by omega)]
        have hfz := M2.out.frozen k
        have hdt := dg_two v j
        rw [dg_nat, hx, dg_nat, dg_nat] at hdt
        have hq1 : (k : Int).tdiv 2 = (j : Int) := by rw [Int.tdiv_eq_ediv_of_nonneg (by omega)]; omega
        have hq2 : (k : Int) / 2 = (j : Int) := by omega
        rcases Nat.mod_two_eq_zero_or_one k with he | he
        · have hm1 : (k : Int).tmod 2 = 0 := by rw [Int.tmod_eq_emod_of_nonneg (by omega)]; omega
          have hm2 : (k : Int) % 2 = 0 := by omega
          have hk2 : k = 2 * j := by omega
          obtain ⟨y, hy⟩ : ∃ y, y = x % 256 := ⟨_, rfl⟩
          have hwx : IntKind.u8.wrap (x : Int) = (y : Int) := by rw [IntKind.wrap_u8]; omega
          have hwx2 : (x : Int) % 256 = (y : Int) := by omega
          have hup : (y : Int) = dg 256 v k := by rw [dg_nat, hk2]; omega
          clear hj hy hdt hk2
          have Hx := Lib.hid hx; clear hx
          have Hup := Lib.hid hup; clear hup
          have He := Lib.hid he; clear he
          repeat ((fail_if_success (with_reducible (show wpList _ _ _ _ _ _))); go_step)
          (refine wpList_step (fun K hK => ?_); go_simp; (try go_bits); refine hK _ _ ?_; clear hK K)
          refine wpList_nil ?_
          repeat ((fail_if_success (with_reducible (show wpList _ _ _ _ _ _))); go_step)
          iterate 2 (refine wpList_step (fun K hK => ?_); go_simp; (try go_bits); refine hK _ _ ?_; clear hK K)
          refine wpList_nil ?_
          repeat ((fail_if_success (with_reducible (show wpList _ _ _ _ _ _))); go_step)
          iterate 14 (refine wpList_step (fun K hK => ?_); go_simp; (try go_bits); refine hK _ _ ?_; clear hK K)
          
          have kq := M2.out.set (k) ((y : Int)); rw [mixb_upd v k _ Hup.out] at kq; clear M2; have M2 := Lib.hid kq; clear kq
          have kq := MR.out.other ⟨w.heap.size, k, none⟩ (.int .u8 ((y : Int))) (by simp <;> omega); clear MR; have MR := Lib.hid kq; clear kq
          have kq := MP.out.other ⟨w.heap.size, k, none⟩ (.int .u8 ((y : Int))) (by simp <;> omega); clear MP; have MP := Lib.hid kq; clear kq
          have kq := MD.out.other ⟨w.heap.size, k, none⟩ (.int .u8 ((y : Int))) (by simp <;> omega); clear MD; have MD := Lib.hid kq; clear kq
          replace HB := Lib.hid (HB.out.setCell (p := ⟨w.heap.size, k, none⟩) (show w.heap.size ≤ w.heap.size by omega) (.int .u8 ((y : Int))))
          obtain ⟨yw601, hwyw601⟩ : ∃ ww, ww = wr.setCell ⟨w.heap.size, k, none⟩ (.int .u8 ((y : Int))) := ⟨_, rfl⟩
          rw [← hwyw601] at MR MP M2 MD HB ⊢
          clear hwyw601
          refine wpList_nil ?_
          clear hc1 hcw hfz hpc hwx hwx2 hm1 hm2 hq1 hq2
          repeat ((fail_if_success (with_reducible (show wpList _ _ _ _ _ _))); go_step)
          iterate 2 (refine wpList_step (fun K hK => ?_); go_simp; (try go_bits); refine hK _ _ ?_; clear hK K)
          refine wpList_nil ?_
          go_roundw
          case measure => simp [intOf]; omega
          case rel => (repeat apply Exists.intro); exact ⟨⟨k + 1, by omega, by go_num, MR.out, MP.out, M2.out, MD.out, HB.out⟩, rfl⟩
        · have hm1 : (k : Int).tmod 2 = 1 := by rw [Int.tmod_eq_emod_of_nonneg (by omega)]; omega
          have hm2 : (k : Int) % 2 = 1 := by omega
          have hk2 : k = 2 * j + 1 := by omega
          obtain ⟨y, hy⟩ : ∃ y, y = x / 256 := ⟨_, rfl⟩
          have hwx2 : (x : Int) / 256 = (y : Int) := by omega
          have hwx : IntKind.u8.wrap (y : Int) = (y : Int) := by rw [IntKind.wrap_u8]; omega
          have hwx3 : (y : Int) % 256 = (y : Int) := by omega
          have hup : (y : Int) = dg 256 v k := by rw [dg_nat, hk2]; omega
          clear hj hy hdt hk2
          have Hx := Lib.hid hx; clear hx
          have Hup := Lib.hid hup; clear hup
          have He := Lib.hid he; clear he
          repeat ((fail_if_success (with_reducible (show wpList _ _ _ _ _ _))); go_step)
          (refine wpList_step (fun K hK => ?_); go_simp; (try go_bits); refine hK _ _ ?_; clear hK K)
          refine wpList_nil ?_
          repeat ((fail_if_success (with_reducible (show wpList _ _ _ _ _ _))); go_step)
          iterate 2 (refine wpList_step (fun K hK => ?_); go_simp; (try go_bits); refine hK _ _ ?_; clear hK K)
          refine wpList_nil ?_
          repeat ((fail_if_success (with_reducible (show wpList _ _ _ _ _ _))); go_step)
          iterate 14 (refine wpList_step (fun K hK => ?_); go_simp; (try go_bits); refine hK _ _ ?_; clear hK K)
          
          have kq := M2.out.set (k) ((y : Int)); rw [mixb_upd v k _ Hup.out] at kq; clear M2; have M2 := Lib.hid kq; clear kq
          have kq := MR.out.other ⟨w.heap.size, k, none⟩ (.int .u8 ((y : Int))) (by simp <;> omega); clear MR; have MR := Lib.hid kq; clear kq
          have kq := MP.out.other ⟨w.heap.size, k, none⟩ (.int .u8 ((y : Int))) (by simp <;> omega); clear MP; have MP := Lib.hid kq; clear kq
          have kq := MD.out.other ⟨w.heap.size, k, none⟩ (.int .u8 ((y : Int))) (by simp <;> omega); clear MD; have MD := Lib.hid kq; clear kq
          replace HB := Lib.hid (HB.out.setCell (p := ⟨w.heap.size, k, none⟩) (show w.heap.size ≤ w.heap.size by omega) (.int .u8 ((y : Int))))
          obtain ⟨yw601, hwyw601⟩ : ∃ ww, ww = wr.setCell ⟨w.heap.size, k, none⟩ (.int .u8 ((y : Int))) := ⟨_, rfl⟩
          rw [← hwyw601] at MR MP M2 MD HB ⊢
          clear hwyw601
          refine wpList_nil ?_
          clear hc1 hcw hfz hpc hwx hwx2 hwx3 hm1 hm2 hq1 hq2
          repeat ((fail_if_success (with_reducible (show wpList _ _ _ _ _ _))); go_step)
          iterate 2 (refine wpList_step (fun K hK => ?_); go_simp; (try go_bits); refine hK _ _ ?_; clear hK K)
          refine wpList_nil ?_
          go_roundw
          case measure => simp [intOf]; omega
          case rel => (repeat apply Exists.intro); exact ⟨⟨k + 1, by omega, by go_num, MR.out, MP.out, M2.out, MD.out, HB.out⟩, rfl⟩
      · have hk32 : k = 32 := by omega
        subst hk32
        clear hk hge
        rw [mixb_32] at M2
        repeat ((fail_if_success (with_reducible (show wpList _ _ _ _ _ _))); go_step)
        (refine wpList_step (fun K hK => ?_); go_simp; (try go_bits); refine hK _ _ ?_; clear hK K)
        refine wpList_nil ?_
        repeat ((fail_if_success (with_reducible (show wpList _ _ _ _ _ _))); go_step)
        refine wpList_load (by rfl) 24 _ rfl (w.heap.size) rfl 24 (k32 v) M2.out Try.underlying24 rfl (by rw [k32_size]; kernel_rfl) 39 rfl ?_
        (try simp only [Act.put, sI, sS, sZ])
        first | (obtain ⟨Zq, hZ, mZ⟩ := M2.out) | (obtain ⟨Zq, hZ, mZ⟩ := M2.out.toN (k32_size ..))
        refine wpList_store2 (by rfl) 24 _ _ rfl rfl (w.heap.size) (k32 v) rfl rfl 24 Zq mZ (by rw [k32_size]; kernel_rfl) (hZ.trans (k32_size ..).symm) (row_one _ _ _) ?_
        intro yw601 hw2
        replace MR := Lib.hid (MR.out.setRow_other (w.heap.size) (k32 v) (by omega))
        replace MP := Lib.hid (MP.out.setRow_other (w.heap.size) (k32 v) (by omega))
        replace MD := Lib.hid (MD.out.setRow_other (w.heap.size) (k32 v) (by omega))
        replace M2 := Lib.hid (mZ.setRow (k32 v))
        replace HB := Lib.hid (below_setRow HB.out (w.heap.size) (k32 v) (by omega))
        rw [← hw2] at MR MP MD M2 HB; clear mZ hZ hw2
        refine wpList_nil ?_
        repeat ((fail_if_success (with_reducible (show wpList _ _ _ _ _ _))); go_step)
        refine ⟨by simp, .inl ⟨_, _, rfl, run_takeDeferred MD.out, ?_⟩⟩
        have m2' : Has (World.putObj yw601 uw1.heap.size (.deferred none)) w.heap.size (k32 v) 24 := (World.putObj_heap_other (by omega)).trans M2.out
        have hBD : Below w.heap.size w (World.putObj yw601 uw1.heap.size (.deferred none)) := HB.out.trans (belowK_b (w := w) (Nat.le_refl _) _ _ _ _ hsz MD.out rfl rfl)
        exact ⟨.agg (k32 v), results_cell_row (t := 24) (by rfl) _ _ (w.heap.size) _ _ _ rfl m2' Try.underlying24 rfl (by rw [k32_size]; kernel_rfl), by rw [Hv.out], hBD⟩
end Go.Proofs.Ytjiagjonlcadiaa
end
section
namespace Go.Proofs.Ytjiagjonlcadiaa
open Go.RowKit Go.Lib

theorem bd24z : Try.prog.built 24 [] = some (k32 0) := by kernel_rfl
theorem ent69 : _root_.Go.Enters Try.prog 69 := ⟨_, Try.func69, by kernel_rfl, by kernel_rfl⟩
theorem ent70 : _root_.Go.Enters Try.prog 70 := ⟨_, Try.func70, by kernel_rfl, by kernel_rfl⟩
theorem ent23 : _root_.Go.Enters Try.prog 23 := ⟨_, Try.func23, by kernel_rfl, by kernel_rfl⟩
theorem ent25 : _root_.Go.Enters Try.prog 25 := ⟨_, Try.func25, by kernel_rfl, by kernel_rfl⟩

set_option maxRecDepth 100000 in
set_option linter.unusedSimpArgs false in
set_option maxHeartbeats 4000000 in
theorem residue_long (a : Option Addr) (len cap : Nat) (hlen : 64 < len) (hmax : len ≤ 9223372036854775807) (w : World) :
    Calls Try.prog 23 #[.slice a len cap] w fun e w' => e = .returned (.tuple #[.agg (k32 0), .bool false]) ∧ Below w.heap.size w w' := by
  have hc : (64 : Int) < (len : Int) := by omega
  go_enter Try.func23, Try.ntmps23
  repeat ((fail_if_success (with_reducible (show wpList _ _ _ _ _ _))); go_step)
  iterate 2 (refine wpList_step (fun K hK => ?_); go_simp; (try go_bits); refine hK _ _ ?_; clear hK K)
  refine wpList_nil ?_
  have M2 := Lib.hid (HasN.new w  (#[.int .u8 0, .int .u8 0, .int .u8 0, .int .u8 0, .int .u8 0, .int .u8 0, .int .u8 0, .int .u8 0, .int .u8 0, .int .u8 0, .int .u8 0, .int .u8 0, .int .u8 0, .int .u8 0, .int .u8 0, .int .u8 0, .int .u8 0, .int .u8 0, .int .u8 0, .int .u8 0, .int .u8 0, .int .u8 0, .int .u8 0, .int .u8 0, .int .u8 0, .int .u8 0, .int .u8 0, .int .u8 0, .int .u8 0, .int .u8 0, .int .u8 0, .int .u8 0] : Array Value) 24 32 (by kernel_rfl))
  have HB := Lib.hid (below_1 w (.cells (#[.int .u8 0, .int .u8 0, .int .u8 0, .int .u8 0, .int .u8 0, .int .u8 0, .int .u8 0, .int .u8 0, .int .u8 0, .int .u8 0, .int .u8 0, .int .u8 0, .int .u8 0, .int .u8 0, .int .u8 0, .int .u8 0, .int .u8 0, .int .u8 0, .int .u8 0, .int .u8 0, .int .u8 0, .int .u8 0, .int .u8 0, .int .u8 0, .int .u8 0, .int .u8 0, .int .u8 0, .int .u8 0, .int .u8 0, .int .u8 0, .int .u8 0, .int .u8 0] : Array Value) 24))
  obtain ⟨yw1, hwyw1⟩ : ∃ ww, ww = (w.alloc (.cells (#[.int .u8 0, .int .u8 0, .int .u8 0, .int .u8 0, .int .u8 0, .int .u8 0, .int .u8 0, .int .u8 0, .int .u8 0, .int .u8 0, .int .u8 0, .int .u8 0, .int .u8 0, .int .u8 0, .int .u8 0, .int .u8 0, .int .u8 0, .int .u8 0, .int .u8 0, .int .u8 0, .int .u8 0, .int .u8 0, .int .u8 0, .int .u8 0, .int .u8 0, .int .u8 0, .int .u8 0, .int .u8 0, .int .u8 0, .int .u8 0, .int .u8 0, .int .u8 0] : Array Value) 24)) := ⟨_, rfl⟩
  rw [← hwyw1] at M2 HB ⊢
  clear hwyw1
  repeat ((fail_if_success (with_reducible (show wpList _ _ _ _ _ _))); go_step)
  iterate 3 (refine wpList_step (fun K hK => ?_); go_simp; (try go_bits); refine hK _ _ ?_; clear hK K)
  refine wpList_nil ?_
  repeat ((fail_if_success (with_reducible (show wpList _ _ _ _ _ _))); go_step)
  refine wpList_built (by rfl) 24 _ rfl _ (by rfl) (k32 0) (bd24z) 7 rfl ?_
  (try simp only [Act.put, sI, sS, sZ])
  first | (obtain ⟨Zq, hZ, mZ⟩ := M2.out) | (obtain ⟨Zq, hZ, mZ⟩ := M2.out.toN (k32_size ..))
  refine wpList_store2 (by rfl) 24 _ _ rfl rfl (w.heap.size) (k32 0) rfl rfl 24 Zq mZ (by rw [k32_size]; kernel_rfl) (hZ.trans (k32_size ..).symm) (row_one _ _ _) ?_
  intro yw2 hw2
  replace M2 := Lib.hid (mZ.setRow (k32 0))
  replace HB := Lib.hid (below_setRow HB.out (w.heap.size) (k32 0) (by omega))
  rw [← hw2] at M2 HB; clear mZ hZ hw2
  (refine wpList_step (fun K hK => ?_); go_simp; (try go_bits); refine hK _ _ ?_; clear hK K)
  refine wpList_nil ?_
  go_wp2_with fail
  exact bodyPost_ret (v := .tuple #[.agg (k32 0), .bool false]) (results_cell_tmp_row (fn := Try.f23) (p := 2) (t2 := 3) (ty := 24) (t := 24) (by rfl) _ _ (w.heap.size) _ _ _ rfl M2.out Try.underlying24 rfl (by rw [k32_size]; kernel_rfl)) rfl ⟨rfl, HB.out⟩
theorem dgs (n K len : Nat) (h : n < 256 ^ len) (hK : K = (len + 1) / 2) : n < 65536 ^ K := by
  subst hK
  refine Nat.lt_of_lt_of_le h ?_
  rw [show (65536 : Nat) = 256 ^ 2 by decide, ← Nat.pow_mul]
  exact Nat.pow_le_pow_right (by decide) (by omega)

set_option maxRecDepth 100000 in
set_option linter.unusedSimpArgs false in
set_option maxHeartbeats 4000000 in
theorem residue_any (a : Option Addr) (len cap n : Nat) (hlen : len ≤ 64) (hn : n < 256 ^ len) (w : World) (hb : Byts w a len n) :
    Calls Try.prog 23 #[.slice a len cap] w fun e w' => e = .returned (.tuple #[.agg (k32 (n % L0)), .bool true]) ∧ Below w.heap.size w w' := by
  have hc : (len : Int) ≤ 64 := by omega
  obtain ⟨K, hK⟩ : ∃ K, K = (len + 1) / 2 := ⟨_, rfl⟩
  have hnK := dgs n K len hn hK
  have hK1 : K ≤ 1000 := by omega
  have hfi := fun w h => figures_any a len cap n (by omega) hn w h
  have hdi := fun F w h => divide_any F K K n hK1 hnK w h
  simp only [← hK] at hfi
  have MB := Lib.hid hb
  clear hK hnK hn hb
  have Hfi := Lib.hid hfi; clear hfi
  have Hdi := Lib.hid hdi; clear hdi
  go_enter Try.func23, Try.ntmps23
  repeat ((fail_if_success (with_reducible (show wpList _ _ _ _ _ _))); go_step)
  iterate 2 (refine wpList_step (fun K hK => ?_); go_simp; (try go_bits); refine hK _ _ ?_; clear hK K)
  refine wpList_nil ?_
  have M2 := Lib.hid (HasN.new w  (#[.int .u8 0, .int .u8 0, .int .u8 0, .int .u8 0, .int .u8 0, .int .u8 0, .int .u8 0, .int .u8 0, .int .u8 0, .int .u8 0, .int .u8 0, .int .u8 0, .int .u8 0, .int .u8 0, .int .u8 0, .int .u8 0, .int .u8 0, .int .u8 0, .int .u8 0, .int .u8 0, .int .u8 0, .int .u8 0, .int .u8 0, .int .u8 0, .int .u8 0, .int .u8 0, .int .u8 0, .int .u8 0, .int .u8 0, .int .u8 0, .int .u8 0, .int .u8 0] : Array Value) 24 32 (by kernel_rfl))
  have HB := Lib.hid (below_1 w (.cells (#[.int .u8 0, .int .u8 0, .int .u8 0, .int .u8 0, .int .u8 0, .int .u8 0, .int .u8 0, .int .u8 0, .int .u8 0, .int .u8 0, .int .u8 0, .int .u8 0, .int .u8 0, .int .u8 0, .int .u8 0, .int .u8 0, .int .u8 0, .int .u8 0, .int .u8 0, .int .u8 0, .int .u8 0, .int .u8 0, .int .u8 0, .int .u8 0, .int .u8 0, .int .u8 0, .int .u8 0, .int .u8 0, .int .u8 0, .int .u8 0, .int .u8 0, .int .u8 0] : Array Value) 24))
  obtain ⟨yw1, hwyw1⟩ : ∃ ww, ww = (w.alloc (.cells (#[.int .u8 0, .int .u8 0, .int .u8 0, .int .u8 0, .int .u8 0, .int .u8 0, .int .u8 0, .int .u8 0, .int .u8 0, .int .u8 0, .int .u8 0, .int .u8 0, .int .u8 0, .int .u8 0, .int .u8 0, .int .u8 0, .int .u8 0, .int .u8 0, .int .u8 0, .int .u8 0, .int .u8 0, .int .u8 0, .int .u8 0, .int .u8 0, .int .u8 0, .int .u8 0, .int .u8 0, .int .u8 0, .int .u8 0, .int .u8 0, .int .u8 0, .int .u8 0] : Array Value) 24)) := ⟨_, rfl⟩
  rw [← hwyw1] at M2 HB ⊢
  clear hwyw1
  replace MB := Lib.hid (MB.out.call HB.out)
  repeat ((fail_if_success (with_reducible (show wpList _ _ _ _ _ _))); go_step)
  iterate 3 (refine wpList_step (fun K hK => ?_); go_simp; (try go_bits); refine hK _ _ ?_; clear hK K)
  refine wpList_nil ?_
  repeat ((fail_if_success (with_reducible (show wpList _ _ _ _ _ _))); go_step)
  (refine wpList_step (fun K hK => ?_); go_simp; (try go_bits); refine hK _ _ ?_; clear hK K)
  refine wpList_call (by rfl) rfl rfl (by rfl) ent70 (by rfl) (Hfi.out _ MB.out) 9 rfl ?_
  rintro e uw1 ⟨⟨F, hF, rfl, mF⟩, hb⟩
  replace M2 := Lib.hid (M2.out.call hb)
  replace MB := Lib.hid (MB.out.call hb)
  replace HB := Lib.hid (held_next HB.out hb)
  have hfg := Lib.hid (Has.figs mF); clear mF
  refine ⟨_, rfl, ?_⟩
  clear hb
  (try simp only [Act.put, sI, sS, sZ])
  
  clear MB
  refine wpList_call (by rfl) rfl rfl (by rfl) ent69 (by rfl) (Hdi.out F _ hfg.out) 10 rfl ?_
  rintro e uw2 ⟨rfl, hb⟩
  replace M2 := Lib.hid (M2.out.call hb)
  replace HB := Lib.hid (held_next HB.out hb)
  clear hfg
  refine ⟨_, rfl, ?_⟩
  clear hb
  (try simp only [Act.put, sI, sS, sZ])
  first | (obtain ⟨Zq, hZ, mZ⟩ := M2.out) | (obtain ⟨Zq, hZ, mZ⟩ := M2.out.toN (k32_size ..))
  refine wpList_store2 (by rfl) 24 _ _ rfl rfl (w.heap.size) (k32 (n % L0)) rfl rfl 24 Zq mZ (by rw [k32_size]; kernel_rfl) (hZ.trans (k32_size ..).symm) (row_one _ _ _) ?_
  intro yw2 hw2
  replace M2 := Lib.hid (mZ.setRow (k32 (n % L0)))
  replace HB := Lib.hid (below_setRow HB.out (w.heap.size) (k32 (n % L0)) (by omega))
  rw [← hw2] at M2 HB; clear mZ hZ hw2
  (refine wpList_step (fun K hK => ?_); go_simp; (try go_bits); refine hK _ _ ?_; clear hK K)
  refine wpList_nil ?_
  go_wp2_with fail
  exact bodyPost_ret (v := .tuple #[.agg (k32 (n % L0)), .bool true]) (results_cell_tmp_row (fn := Try.f23) (p := 2) (t2 := 3) (ty := 24) (t := 24) (by rfl) _ _ (w.heap.size) _ _ _ rfl M2.out Try.underlying24 rfl (by rw [k32_size]; kernel_rfl)) rfl ⟨rfl, HB.out⟩

theorem splice17 (n : Nat) (hn : n < 65536 ^ 16) : (splice (r17 0).toList 0 (rowl .u32 16 (dg 65536 n))).toArray = r17 n := by
  have e : (r17 0).toList = rowl .u32 17 (dg 65536 0) := rfl
  unfold splice
  rw [e]
  apply Array.ext'
  show List.take 0 (rowl .u32 17 (dg 65536 0)) ++ (rowl .u32 16 (dg 65536 n) ++ List.drop (0 + (rowl .u32 16 (dg 65536 n)).length) (rowl .u32 17 (dg 65536 0))) = rowl .u32 17 (dg 65536 n)
  rw [rowl_len]
  have h16 : dg 65536 n 16 = 0 := by unfold dg; rw [Nat.div_eq_of_lt hn]; rfl
  have h0 : dg 65536 0 16 = 0 := by unfold dg; rw [Nat.zero_div]; rfl
  have e2 : ∀ f : Nat → Int, List.drop 16 (rowl .u32 17 f) = [Value.int .u32 (f 16)] := fun _ => rfl
  have e3 : ∀ f : Nat → Int, rowl .u32 17 f = rowl .u32 16 f ++ [Value.int .u32 (f 16)] := fun _ => rfl
  rw [Nat.zero_add, e2, e3 (dg 65536 n), h16, h0]
  rfl
theorem p256_32 : (256 : Nat) ^ 32 = 115792089237316195423570985008687907853269984665640564039457584007913129639936 := by decide +kernel
theorem p256_16 : (65536 : Nat) ^ 16 = 115792089237316195423570985008687907853269984665640564039457584007913129639936 := by decide +kernel

set_option maxRecDepth 100000 in
set_option linter.unusedSimpArgs false in
set_option maxHeartbeats 4000000 in
theorem kleast_any (n : Nat) (hn : n < 115792089237316195423570985008687907853269984665640564039457584007913129639936) (w : World) :
    Calls Try.prog 25 #[.agg (k32 n)] w fun e w' => e = .returned (.bool (decide (n < L0))) ∧ Below w.heap.size w w' := by
  have hn16 : n < 65536 ^ 16 := by rw [p256_16]; exact hn
  have hn32 : n < 256 ^ 32 := by rw [p256_32]; exact hn
  have hn17 : n < 65536 ^ 17 := Nat.lt_of_lt_of_le hn16 (Nat.pow_le_pow_right (by decide) (by decide))
  have hfi := fun a w h => figures_any a 32 32 n (by decide) hn32 w h
  have hal := fun R w h => atLeast_any R n hn17 w h
  have hdec : (!decide (L0 ≤ n)) = decide (n < L0) := by
    by_cases h : L0 ≤ n
    · rw [decide_eq_true h, decide_eq_false (by omega)]; rfl
    · rw [decide_eq_false h, decide_eq_true (by omega)]; rfl
  have hsp := splice17 n hn16
  clear hn hn16 hn32 hn17
  obtain ⟨bb, hbb⟩ : ∃ b, b = decide (L0 ≤ n) := ⟨_, rfl⟩
  rw [← hbb] at hdec
  simp only [← hbb] at hal
  clear hbb
  have Hfi := Lib.hid hfi; clear hfi
  have Hal := Lib.hid hal; clear hal
  have Hdec := Lib.hid hdec; clear hdec
  have Hsp := Lib.hid hsp; clear hsp
  go_enter Try.func25, Try.ntmps25
  repeat ((fail_if_success (with_reducible (show wpList _ _ _ _ _ _))); go_step)
  iterate 2 (refine wpList_step (fun K hK => ?_); go_simp; (try go_bits); refine hK _ _ ?_; clear hK K)
  refine wpList_nil ?_
  have M1 := Lib.hid (Has.new w  (k32 n) 24)
  have HB := Lib.hid (below_1 w (.cells (k32 n) 24))
  obtain ⟨yw1, hwyw1⟩ : ∃ ww, ww = (w.alloc (.cells (k32 n) 24)) := ⟨_, rfl⟩
  rw [← hwyw1] at M1 HB ⊢
  clear hwyw1
  repeat ((fail_if_success (with_reducible (show wpList _ _ _ _ _ _))); go_step)
  refine wpList_built (by rfl) 93 _ rfl _ (by rfl) (r17 0) (bd93z) 4 rfl ?_
  (try simp only [Act.put, sI, sS, sZ])
  have gR := M1.out.lt
  refine wpList_step (fun K hK => ?_)
  go_simp
  refine hK _ _ ?_
  clear hK K
  have hb := below_1 yw1 (.cells (r17 0) 93)
  have nwMR := Has.new yw1 (r17 0) 93
  obtain ⟨yw2, hwyw2⟩ : ∃ ww, ww = yw1.alloc (.cells (r17 0) 93) := ⟨_, rfl⟩
  rw [← hwyw2] at hb nwMR ⊢
  clear hwyw2
  replace M1 := Lib.hid (M1.out.call hb)
  replace HB := Lib.hid (held_next HB.out hb)
  clear hb
  have MR := Lib.hid nwMR; clear nwMR
  (try simp only [Act.put, sI, sS, sZ])
  (refine wpList_step (fun K hK => ?_); go_simp; (try go_bits); refine hK _ _ ?_; clear hK K)
  refine wpList_nil ?_
  repeat ((fail_if_success (with_reducible (show wpList _ _ _ _ _ _))); go_step)
  refine wp_region_noPanic ?_
  refine wp_region_goS (fun _ => True) 99 6 #[ff,ff,ff,ff,ff,ff] (by kernel_rfl) rfl rfl ?_
  replace M1 := Lib.hid (M1.out.drew)
  replace MR := Lib.hid (MR.out.drew)
  replace HB := Lib.hid (below_drewN HB.out 1)
  obtain ⟨yw3, hwyw3⟩ : ∃ ww, ww = yw2.drew := ⟨_, rfl⟩
  rw [← hwyw3] at M1 MR ⊢
  have kq : Below w.heap.size w yw3 := by rw [hwyw3]; exact HB.out
  clear HB; have HB := Lib.hid kq; clear kq hwyw3
  refine go_take2 0 6 #[tt,ff,ff,ff,ff,ff] (v := ?uv1) rfl rfl rfl (by kernel_rfl) (Or.inl ⟨by rfl, ?uy1⟩) (trivial) ?urest1
  case uy1 => (intro _ _; go_simp; try with_reducible rfl)
  (try simp only [sI, sS, sZ])
  refine go_take2 1 7 #[tt,tt,ff,ff,ff,ff] (v := ?uv2) rfl rfl rfl (by kernel_rfl) (Or.inl ⟨by rfl, ?uy2⟩) (trivial) ?urest2
  case uy2 => (intro _ _; go_simp; try with_reducible rfl)
  (try simp only [sI, sS, sZ])
  refine go_take2 2 8 #[tt,tt,tt,ff,ff,ff] (v := ?uv3) rfl rfl rfl (by kernel_rfl) (Or.inl ⟨by rfl, ?uy3⟩) (trivial) ?urest3
  case uy3 => (intro _ _; go_simp; try with_reducible rfl)
  (try simp only [sI, sS, sZ])
  refine go_take2 3 9 #[tt,tt,tt,tt,ff,ff] (v := ?uv4) rfl rfl rfl (by kernel_rfl) (Or.inl ⟨by rfl, ?uy4⟩) (trivial) ?urest4
  case uy4 => (intro _ _; go_simp; try with_reducible rfl)
  (try simp only [sI, sS, sZ])
  refine wpBut_r1 (i := 4) (by kernel_rfl) ?_
  refine go_call 4 10 #[tt,tt,tt,tt,tt,ff] rfl rfl rfl (by rfl) rfl rfl (by rfl) ent70 (by rfl) (Hfi.out _ _ M1.out.byts) ?_
  rintro e uw1 ⟨⟨F, hF, rfl, mF⟩, hb⟩
  replace M1 := Lib.hid (M1.out.call hb)
  replace MR := Lib.hid (MR.out.call hb)
  replace HB := Lib.hid (held_next HB.out hb)
  have MF := Lib.hid (Has.figs mF); clear mF
  refine ⟨_, rfl, fun _ => trivial, ?_⟩
  clear hb
  (try simp only [sI, sS, sZ])
  refine wpBut_r1 (i := 5) (by kernel_rfl) ?_
  refine go_any 5 #[tt,tt,tt,tt,tt,tt] rfl rfl (fun K hK => ?_)
  refine step_copy_splice rfl (.tmp 8) (.tmp 10) 86 86 rfl 91 Try.underlying86 (by kernel_rfl) _ _ 17 17 16 16 rfl rfl (yw1.heap.size) 0 (r17 0).toList 93 (by rw [Array.toArray_toList]; exact MR.out) (rowl .u32 16 (dg 65536 n)) (by rw [rowl_len]; rfl) (fun _ => ⟨rfl, _, rfl, fun j v hv => ?_⟩) (by rw [rowl_len]; simp [r17_size]) (rowl_one _ _ _) (yw1.heap.size) uw1 (Below.refl _ _) (Nat.le_refl _) ?_
  · have hj : j < 16 := by have := (List.getElem?_eq_some_iff.1 hv).1; rwa [rowl_len] at this
    have h2 := MF.out.2 j hj
    have h3 : (rowl .u32 16 (dg 65536 n))[j]? = some (.int .u32 (dg 65536 n j)) := by simp [rowl, hj]
    rw [h3] at hv
    obtain rfl := Option.some.inj hv
    show _ = _
    rw [Addr.add_mid, Nat.zero_add]; exact h2
  · intro w4 hg4 hb4
    rw [Hsp.out] at hg4
    replace MR := Lib.hid (show Has w4 yw1.heap.size (r17 n) 93 from hg4.out)
    replace HB := Lib.hid (HB.out.trans (hb4.mono (by omega)))
    clear hg4 hb4 M1 MF
    refine hK.out _ _ (fun _ => trivial) ?_
    clear hK K
    (try simp only [Act.put, sI, sS, sZ])
    refine wpBut_done (by kernel_rfl) (NoPanic.normal ?_)
    repeat ((fail_if_success (with_reducible (show wpList _ _ _ _ _ _))); go_step)
    have hdec := Hdec.out
    (refine wpList_step (fun K hK => ?_); go_simp; (try go_bits); refine hK _ _ ?_; clear hK K)
    refine wpList_call (by rfl) rfl rfl (by rfl) ent72 (by rfl) (Hal.out _ _ MR.out) 13 rfl ?_
    rintro e uw2 ⟨rfl, hb⟩
    replace MR := Lib.hid (MR.out.call hb)
    replace HB := Lib.hid (held_next HB.out hb)
    refine ⟨_, rfl, ?_⟩
    clear hb
    (try simp only [Act.put, sI, sS, sZ])
    iterate 2 (refine wpList_step (fun K hK => ?_); go_simp; (try go_bits); refine hK _ _ ?_; clear hK K)
    refine wpList_nil ?_
    go_wp2_with fail
    go_ret
    exact ⟨rfl, HB.out⟩
end Go.Proofs.Ytjiagjonlcadiaa
end
section
namespace Go.Proofs.Ytjiagjonlcadiaa
open Go.RowKit Go.Lib

theorem bd24L : Try.prog.built 24 [(0, .int .u8 237), (1, .int .u8 211), (2, .int .u8 245), (3, .int .u8 92), (4, .int .u8 26), (5, .int .u8 99), (6, .int .u8 18), (7, .int .u8 88), (8, .int .u8 214), (9, .int .u8 156), (10, .int .u8 247), (11, .int .u8 162), (12, .int .u8 222), (13, .int .u8 249), (14, .int .u8 222), (15, .int .u8 20), (31, .int .u8 16)] = some (k32 L0) := by kernel_rfl
theorem bd24L2 : Try.prog.built 24 [(0, .int .u8 237), (1, .int .u8 211), (2, .int .u8 245), (3, .int .u8 92), (4, .int .u8 26), (5, .int .u8 99), (6, .int .u8 18), (7, .int .u8 88), (8, .int .u8 214), (9, .int .u8 156), (10, .int .u8 247), (11, .int .u8 162), (12, .int .u8 222), (13, .int .u8 249), (14, .int .u8 222), (15, .int .u8 20), (16, .int .u8 0), (17, .int .u8 0), (18, .int .u8 0), (19, .int .u8 0), (20, .int .u8 0), (21, .int .u8 0), (22, .int .u8 0), (23, .int .u8 0), (24, .int .u8 0), (25, .int .u8 0), (26, .int .u8 0), (27, .int .u8 0), (28, .int .u8 0), (29, .int .u8 0), (30, .int .u8 0), (31, .int .u8 16)] = some (k32 L0) := by kernel_rfl

set_option maxRecDepth 100000 in
set_option linter.unusedSimpArgs false in
set_option maxHeartbeats 4000000 in
theorem rorder_any (w : World) : Calls Try.prog 59 #[] w fun e w' => e = .returned (.agg (k32 L0)) ∧ Below w.heap.size w w' := by
  go_enter Try.func59, Try.ntmps59
  repeat ((fail_if_success (with_reducible (show wpList _ _ _ _ _ _))); go_step)
  (refine wpList_step (fun K hK => ?_); go_simp; (try go_bits); refine hK _ _ ?_; clear hK K)
  refine wpList_nil ?_
  have M0 := Lib.hid (HasN.new w  (#[.int .u8 0, .int .u8 0, .int .u8 0, .int .u8 0, .int .u8 0, .int .u8 0, .int .u8 0, .int .u8 0, .int .u8 0, .int .u8 0, .int .u8 0, .int .u8 0, .int .u8 0, .int .u8 0, .int .u8 0, .int .u8 0, .int .u8 0, .int .u8 0, .int .u8 0, .int .u8 0, .int .u8 0, .int .u8 0, .int .u8 0, .int .u8 0, .int .u8 0, .int .u8 0, .int .u8 0, .int .u8 0, .int .u8 0, .int .u8 0, .int .u8 0, .int .u8 0] : Array Value) 24 32 (by kernel_rfl))
  have HB := Lib.hid (below_1 w (.cells (#[.int .u8 0, .int .u8 0, .int .u8 0, .int .u8 0, .int .u8 0, .int .u8 0, .int .u8 0, .int .u8 0, .int .u8 0, .int .u8 0, .int .u8 0, .int .u8 0, .int .u8 0, .int .u8 0, .int .u8 0, .int .u8 0, .int .u8 0, .int .u8 0, .int .u8 0, .int .u8 0, .int .u8 0, .int .u8 0, .int .u8 0, .int .u8 0, .int .u8 0, .int .u8 0, .int .u8 0, .int .u8 0, .int .u8 0, .int .u8 0, .int .u8 0, .int .u8 0] : Array Value) 24))
  obtain ⟨yw1, hwyw1⟩ : ∃ ww, ww = (w.alloc (.cells (#[.int .u8 0, .int .u8 0, .int .u8 0, .int .u8 0, .int .u8 0, .int .u8 0, .int .u8 0, .int .u8 0, .int .u8 0, .int .u8 0, .int .u8 0, .int .u8 0, .int .u8 0, .int .u8 0, .int .u8 0, .int .u8 0, .int .u8 0, .int .u8 0, .int .u8 0, .int .u8 0, .int .u8 0, .int .u8 0, .int .u8 0, .int .u8 0, .int .u8 0, .int .u8 0, .int .u8 0, .int .u8 0, .int .u8 0, .int .u8 0, .int .u8 0, .int .u8 0] : Array Value) 24)) := ⟨_, rfl⟩
  rw [← hwyw1] at M0 HB ⊢
  clear hwyw1
  repeat ((fail_if_success (with_reducible (show wpList _ _ _ _ _ _))); go_step)
  refine wpList_built (by rfl) 24 _ rfl _ (by rfl) (k32 L0) (bd24L2) 1 rfl ?_
  (try simp only [Act.put, sI, sS, sZ])
  first | (obtain ⟨Zq, hZ, mZ⟩ := M0.out) | (obtain ⟨Zq, hZ, mZ⟩ := M0.out.toN (k32_size ..))
  refine wpList_store2 (by rfl) 24 _ _ rfl rfl (w.heap.size) (k32 L0) rfl rfl 24 Zq mZ (by rw [k32_size]; kernel_rfl) (hZ.trans (k32_size ..).symm) (row_one _ _ _) ?_
  intro yw2 hw2
  replace M0 := Lib.hid (mZ.setRow (k32 L0))
  replace HB := Lib.hid (below_setRow HB.out (w.heap.size) (k32 L0) (by omega))
  rw [← hw2] at M0 HB; clear mZ hZ hw2
  refine wpList_nil ?_
  go_wp2_with fail
  exact bodyPost_ret (v := .agg (k32 L0)) (results_cell_row (t := 24) (by rfl) _ _ (w.heap.size) _ _ _ rfl M0.out Try.underlying24 rfl (by rw [k32_size]; kernel_rfl)) rfl ⟨rfl, HB.out⟩
theorem ent59 : _root_.Go.Enters Try.prog 59 := ⟨_, Try.func59, by kernel_rfl, by kernel_rfl⟩

/-- block b holds these integers -/
def Ints (w : World) (b len : Nat) (g : Nat → Int) : Prop := b < w.heap.size ∧ ∀ j, j < len → w.cell? ⟨b, j, none⟩ = some (.int .i64 (g j))
section ints
variable {w w' : World} {b len : Nat} {g : Nat → Int}
theorem Ints.lt (h : Ints w b len g) : b < w.heap.size := h.1
theorem Ints.same (h : Ints w b len g) (he : w'.heap[b]? = w.heap[b]?) (hs : w.heap.size ≤ w'.heap.size) : Ints w' b len g :=
  ⟨Nat.lt_of_lt_of_le h.1 hs, fun j hj => (World.cell?_of_block (w := w) (w' := w') (a := ⟨b, j, none⟩) he).trans (h.2 j hj)⟩
theorem Ints.call (h : Ints w b len g) (hb : Below w.heap.size w w') : Ints w' b len g := h.same (hb.block _ h.1) hb.size
theorem Ints.alloc (h : Ints w b len g) (o : Obj) : Ints (w.alloc o) b len g := h.call ((Below.refl _ _).alloc (Nat.le_refl _) _)
theorem Ints.other (h : Ints w b len g) (a : Addr) (v : Value) (hb : b ≠ a.block) : Ints (w.setCell a v) b len g :=
  h.same (heap_setCell_other w a b v hb) ((Below.refl 0 w).setCell (p := a) (Nat.zero_le _) v).size
theorem Ints.setRow_other (h : Ints w b len g) (k : Nat) (c : Array Value) (hg : b ≠ k) : Ints (w.setRow k c) b len g :=
  h.same (Go.setRow_other w k b c hg) (below_setRow (Below.refl 0 w) k c (Nat.zero_le _)).size
end ints

/-- 34 bytes as integers -/
def i34 (n : Nat) : Array Value := row .i64 34 (dg 256 n)
def z131 : Array Value := (#[.int .i64 0, .int .i64 0, .int .i64 0, .int .i64 0, .int .i64 0, .int .i64 0, .int .i64 0, .int .i64 0, .int .i64 0, .int .i64 0, .int .i64 0, .int .i64 0, .int .i64 0, .int .i64 0, .int .i64 0, .int .i64 0, .int .i64 0, .int .i64 0, .int .i64 0, .int .i64 0, .int .i64 0, .int .i64 0, .int .i64 0, .int .i64 0, .int .i64 0, .int .i64 0, .int .i64 0, .int .i64 0, .int .i64 0, .int .i64 0, .int .i64 0, .int .i64 0, .int .i64 0, .int .i64 0] : Array Value)
theorem al131 (w : World) : (Instr.alloc 131 true (.tuple #[])).run Try.prog w = .ok (.pointer (some ⟨w.heap.size, 0, none⟩)) (w.alloc (.cells z131 131)) := by
  unfold z131
  go_simp
theorem z131i : z131 = i34 0 := by kernel_rfl
/-- on the way up: what lies above k has moved -/
def upf (v k : Nat) : Nat → Int := fun j => if k < j then dg 256 v (j - 1) else dg 256 v j
theorem upf_33 (v : Nat) : row .i64 34 (upf v 33) = i34 v := row_ext _ _ _ _ fun j hj => by unfold upf; rw [if_neg (by omega)]
theorem upf_upd (v k : Nat) (x : Int) (h : x = dg 256 v k) : upd (upf v (k + 1)) (k + 1) x = upf v k := by
  funext j
  unfold upd upf
  by_cases e : j = k + 1
  · rw [if_pos e, if_pos (by omega), h, e]; rfl
  · rw [if_neg e]
    by_cases e2 : k + 1 < j
    · rw [if_pos e2, if_pos (by omega)]
    · rw [if_neg e2, if_neg (by omega)]
theorem upf_at (v k : Nat) : upf v (k + 1) k = dg 256 v k := by unfold upf; rw [if_neg (by omega)]
theorem upf_0 (v c : Nat) (hc : c < 256) : row .i64 34 (upd (upf v 0) 0 (c : Int)) = i34 (256 * v + c) := by
  refine row_ext _ _ _ _ fun j hj => ?_
  unfold upd upf
  by_cases e : j = 0
  · subst e; rw [if_pos rfl]; unfold dg; rw [Nat.pow_zero, Nat.div_one]; omega
  · rw [if_neg e, if_pos (by omega)]
    obtain ⟨i, rfl⟩ : ∃ i, j = i + 1 := ⟨j - 1, by omega⟩
    unfold dg
    rw [Nat.add_sub_cancel, Nat.pow_succ, Nat.mul_comm (256 ^ i) 256, ← Nat.div_div_eq_div_mul, show (256 * v + c) / 256 = v by omega]
/-- so far k bytes of m, behind them n's -/
def mixi (m n k : Nat) : Nat → Int := fun j => if j < k then dg 256 m j else dg 256 n j
theorem mixi_at (m n k : Nat) : mixi m n k k = dg 256 n k := by unfold mixi; rw [if_neg (by omega)]
theorem mixi_upd (m n k : Nat) (x : Int) (h : x = dg 256 m k) : upd (mixi m n k) k x = mixi m n (k + 1) := by
  funext j
  unfold upd mixi
  by_cases e : j = k
  · rw [if_pos e, if_pos (by omega), h, e]
  · rw [if_neg e]
    by_cases e2 : j < k
    · rw [if_pos e2, if_pos (by omega)]
    · rw [if_neg e2, if_neg (by omega)]
theorem mixi_0 (m n : Nat) : row .i64 34 (mixi m n 0) = i34 n := row_ext _ _ _ _ (fun j hj => by unfold mixi; rw [if_neg (by omega)])
theorem mixi_34 (m n : Nat) : row .i64 34 (mixi m n 34) = i34 m := row_ext _ _ _ _ (fun j hj => by unfold mixi; rw [if_pos hj])
theorem sub8 (d n l k c x y : Nat) (h : n / 256 ^ k = d / 256 ^ k + l / 256 ^ k + c) (hc : c < 2) (hx : n / 256 ^ k % 256 = x) (hy : l / 256 ^ k % 256 = y) :
    (x < y + c → d / 256 ^ k % 256 = x + 256 - y - c ∧ n / 256 ^ (k + 1) = d / 256 ^ (k + 1) + l / 256 ^ (k + 1) + 1) ∧ (y + c ≤ x → d / 256 ^ k % 256 = x - y - c ∧ n / 256 ^ (k + 1) = d / 256 ^ (k + 1) + l / 256 ^ (k + 1) + 0) := by
  rw [Nat.pow_succ, ← Nat.div_div_eq_div_mul, ← Nat.div_div_eq_div_mul, ← Nat.div_div_eq_div_mul]
  generalize n / 256 ^ k = N at *
  generalize d / 256 ^ k = D at *
  generalize l / 256 ^ k = L at *
  omega
/-- the first difference from the top decides -/
theorem top_lt (n l k : Nat) (h : ∀ j, k < j → j < 34 → dg 256 n j = dg 256 l j) (hk : k < 34) (hn : n < 256 ^ 34) (hl : l < 256 ^ 34) (hne : dg 256 n k ≠ dg 256 l k) : decide (dg 256 n k < dg 256 l k) = decide (n < l) := by
  have key : ∀ i, i ≤ 33 - k → n / 256 ^ (34 - i) = l / 256 ^ (34 - i) := by
    intro i
    induction i with
    | zero => intro _; rw [Nat.sub_zero, Nat.div_eq_of_lt hn, Nat.div_eq_of_lt hl]
    | succ i ih =>
      intro hi
      have h1 := ih (by omega)
      have h2 := h (34 - (i + 1)) (by omega) (by omega)
      unfold dg at h2
      rw [show 34 - i = 34 - (i + 1) + 1 by omega, Nat.pow_succ, ← Nat.div_div_eq_div_mul, ← Nat.div_div_eq_div_mul] at h1
      omega
  have h1 := key (33 - k) (Nat.le_refl _)
  rw [show 34 - (33 - k) = k + 1 by omega, Nat.pow_succ, ← Nat.div_div_eq_div_mul, ← Nat.div_div_eq_div_mul] at h1
  unfold dg at hne ⊢
  generalize hp : 256 ^ k = p at *
  by_cases h0 : n < l
  · have h3 : n / p ≤ l / p := Nat.div_le_div_right (by omega)
    rw [decide_eq_true h0, decide_eq_true (by omega)]
  · have h3 : l / p ≤ n / p := Nat.div_le_div_right (by omega)
    rw [decide_eq_false h0, decide_eq_false (by omega)]
theorem top_eq (n l : Nat) (h : ∀ j, j < 34 → dg 256 n j = dg 256 l j) (hn : n < 256 ^ 34) (hl : l < 256 ^ 34) : n = l := by
  have key : ∀ i, i ≤ 34 → n / 256 ^ (34 - i) = l / 256 ^ (34 - i) := by
    intro i
    induction i with
    | zero => intro _; rw [Nat.sub_zero, Nat.div_eq_of_lt hn, Nat.div_eq_of_lt hl]
    | succ i ih =>
      intro hi
      have h1 := ih (by omega)
      have h2 := h (34 - (i + 1)) (by omega)
      unfold dg at h2
      rw [show 34 - i = 34 - (i + 1) + 1 by omega, Nat.pow_succ, ← Nat.div_div_eq_div_mul, ← Nat.div_div_eq_div_mul] at h1
      omega
  have := key 34 (Nat.le_refl _)
  rwa [Nat.sub_self, Nat.pow_zero, Nat.div_one, Nat.div_one] at this
theorem L0_val : L0 = 7237005577332262213973186563042994240857116359379907606001950938285454250989 := rfl
theorem p256_34 : (256 : Nat) ^ 34 = 7588550360256754183279148073529370729071901715047420004889892225542594864082845696 := by decide +kernel
theorem dg8 (n j : Nat) : 0 ≤ dg 256 n j ∧ dg 256 n j < 256 := by unfold dg; omega
/-- the order's byte, 0 from 32 on -/
theorem L0_top (j : Nat) (h : 32 ≤ j) : dg 256 L0 j = 0 := by
  unfold dg
  rw [Nat.div_eq_of_lt (Nat.lt_of_lt_of_le (show L0 < 256 ^ 32 by decide +kernel) (Nat.pow_le_pow_right (by decide) h))]; rfl
end Go.Proofs.Ytjiagjonlcadiaa
end
