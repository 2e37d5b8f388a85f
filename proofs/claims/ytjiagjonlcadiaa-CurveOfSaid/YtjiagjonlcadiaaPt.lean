/- Points in memory: the program's (three elements and a truth), the reference's (four elements). -/
import Derived.Test.YtjiagjonlcadiaaRefI
import Derived.Test.YtjiagjonlcadiaaFldA
namespace Go
variable {P : Program} {ops : Array Oper} {Q : Exit → Act → World → Prop} {S : World → Prop} {a : Act} {w : World}

theorem yieldsIf_build {o : Oper} (hw : Region.wanted o (yielded ops a.tmps) = true) (t : TypeId) (parts : Array (Nat × Operand)) (ho : o.op = .build t parts) (pl : List (Nat × Value)) (hv : parts.toList.map (fun p => (p.1, a.eval p.2)) = pl) (cells : Array Value) (hc : P.built t pl = some cells) : YieldsIf P ops S o (.agg cells) a := by
  refine Or.inl ⟨hw, fun w _ => ?_⟩
  have hc2 : P.built t (parts.map fun (i, x) => (i, a.eval x)).toList = some cells := by
    rw [Array.toList_map, ← hc, ← hv]
  unfold execOp
  simp only [ho, Sem.run_bind, run_build w t _ cells hc2, Result.andThen_ok]
  rfl
theorem wpList_built {rest : List Oper} {o : Oper} (hw : Region.wanted o (yielded ops a.tmps) = true) (t : TypeId) (parts : Array (Nat × Operand)) (ho : o.op = .build t parts) (pl : List (Nat × Value)) (hv : parts.toList.map (fun p => (p.1, a.eval p.2)) = pl) (cells : Array Value) (hc : P.built t pl = some cells)
    (d : Tmp) (hd : o.dst = some d) (h : wpList P ops Q rest { a with tmps := a.tmps.setIfInBounds d (.agg cells) } w) : wpList P ops Q (o :: rest) a w := by
  rcases yieldsIf_build (ops := ops) (S := fun _ => True) hw t parts ho pl hv cells hc with ⟨_, h1⟩ | ⟨h1, _⟩
  · refine wpList_step fun K hK => ?_
    rw [if_pos hw]
    unfold Oper.wp
    rw [h1 w trivial, Oper.upon_value]
    refine hK _ _ ?_
    rw [put_some hd]; exact h
  · rw [hw] at h1; cases h1
theorem wpList_alloc {rest : List Oper} {o : Oper} (hw : Region.wanted o (yielded ops a.tmps) = true) (ty : TypeId) (ho : o.op = .alloc ty) (Z : Array Value)
    (hz : ∀ w : World, (Instr.alloc ty true (.tuple #[])).run P w = .ok (.pointer (some ⟨w.heap.size, 0, none⟩)) (w.alloc (.cells Z ty))) (d : Tmp) (hd : o.dst = some d)
    (h : ∀ w2, w2 = w.alloc (.cells Z ty) → wpList P ops Q rest { a with tmps := a.tmps.setIfInBounds d (.pointer (some ⟨w.heap.size, 0, none⟩)) } w2) : wpList P ops Q (o :: rest) a w := by
  refine wpList_step fun K hK => ?_
  rw [if_pos hw]
  unfold Oper.wp execOp
  simp only [ho, Sem.run_bind, Sem.run_pure, hz, Result.andThen_ok]
  refine hK _ _ ?_
  rw [put_some hd]; exact h _ rfl
theorem wpList_store2 {rest : List Oper} {o : Oper} (hw : Region.wanted o (yielded ops a.tmps) = true) (ty : TypeId) (x y : Operand) (ho : o.op = .store ty x y) (hd : o.dst = none)
    (g : Nat) (cells : Array Value) (hx : a.eval x = .pointer (some ⟨g, 0, none⟩)) (hy : a.eval y = .agg cells)
    (t : TypeId) (old : Array Value) (hg : w.heap[g]? = some (.cells old t (0, 0))) (hi : (P.info? ty).map (·.size) = some cells.size)
    (hold : old.size = cells.size) (h1 : cells.all (·.oneCell') = true)
    (h : ∀ w2, w2 = w.setRow g cells → wpList P ops Q rest a w2) : wpList P ops Q (o :: rest) a w := by
  refine wpList_step fun K hK => ?_
  rw [if_pos hw]
  refine wp_store_row ty x y ho g cells hx hy t old hg hi hold h1 ?_
  refine hK _ _ ?_
  rw [put_none hd]; exact h _ rfl
theorem wpList_loadm {rest : List Oper} {o : Oper} (hw : Region.wanted o (yielded ops a.tmps) = true) (ty : TypeId) (x : Operand) (ho : o.op = .load ty x) (b i : Nat) (hx : a.eval x = .pointer (some ⟨b, i, none⟩)) (cs : List Value) (c : Array Value) (hcc : c = cs.toArray)
    (hr : w.rangeAt b i cs) (d : TypeDesc) (hu : P.underlying ty = some d) (hd : d.isRow = true) (hi : (P.info? ty).map (·.size) = some cs.length)
    (e : Tmp) (he : o.dst = some e) (h : wpList P ops Q rest { a with tmps := a.tmps.setIfInBounds e (.agg c) } w) : wpList P ops Q (o :: rest) a w := by
  have hy := yieldsIf_load_mid (ops := ops) (S := fun w' => w' = w) hw ty x ho b i hx cs d (fun w' h' => by rw [h']; exact hr) hu hd hi
  rcases hy with ⟨_, h1⟩ | ⟨h1, _⟩
  · refine wpList_step fun K hK => ?_
    rw [if_pos hw]
    unfold Oper.wp
    rw [h1 w rfl, Oper.upon_value]
    refine hK _ _ ?_
    rw [put_some he, ← hcc]; exact h
  · rw [hw] at h1; cases h1
theorem yieldsIf_loadm {o : Oper} (hw : Region.wanted o (yielded ops a.tmps) = true) (ty : TypeId) (x : Operand) (ho : o.op = .load ty x) (b i : Nat) (hx : a.eval x = .pointer (some ⟨b, i, none⟩)) (cs : List Value) (c : Array Value) (hcc : c = cs.toArray)
    (hS : ∀ w, S w → w.rangeAt b i cs) (d : TypeDesc) (hu : P.underlying ty = some d) (hd : d.isRow = true) (hi : (P.info? ty).map (·.size) = some cs.length) : YieldsIf P ops S o (.agg c) a := by
  rw [hcc]; exact yieldsIf_load_mid hw ty x ho b i hx cs d hS hu hd hi
end Go
namespace Go.Proofs.Ytjiagjonlcadiaa
open Go.RowKit Go.Lib

/-- four cells of a number -/
def e4l (n : Nat) : List Value := rowl .u64 4 (dg 18446744073709551616 n)
theorem e4_l (n : Nat) : e4 n = (e4l n).toArray := rfl
theorem e4l_len (n : Nat) : (e4l n).length = 4 := rowl_len _ _ _
/-- the program's point -/
def pt (x y z : Nat) (b : Bool) : Array Value := (e4l x ++ e4l y ++ e4l z ++ [Value.bool b]).toArray
theorem pt_size (x y z : Nat) (b : Bool) : (pt x y z b).size = 13 := by simp [pt, e4l_len]
theorem pt_one (x y z : Nat) (b : Bool) : (pt x y z b).all (·.oneCell') = true := by
  simp [pt, e4l, rowl, List.all_eq_true, Value.oneCell']
/-- the reference's point -/
def r22l (n : Nat) : List Value := rowl .i64 22 (dg 4096 n)
theorem r22_l (n : Nat) : r22 n = (r22l n).toArray := rfl
theorem r22l_len (n : Nat) : (r22l n).length = 22 := rowl_len _ _ _
def rp (x y z t : Nat) : Array Value := (r22l x ++ r22l y ++ r22l z ++ r22l t).toArray
theorem rp_size (x y z t : Nat) : (rp x y z t).size = 88 := by simp [rp, r22l_len]
theorem rp_one (x y z t : Nat) : (rp x y z t).all (·.oneCell') = true := by
  simp [rp, r22l, rowl, List.all_eq_true, Value.oneCell']

theorem range_of {w : World} {b : Nat} {t : TypeId} {l1 l2 l3 : List Value} (h : Has w b (l1 ++ l2 ++ l3).toArray t) : w.rangeAt b l1.length l2 := fun j v hv => by
  have hj : j < l2.length := (List.getElem?_eq_some_iff.1 hv).1
  rw [h.cellAt]
  simp only [List.getElem?_toArray]
  rw [List.append_assoc, List.getElem?_append_right (by omega), List.getElem?_append_left (by omega), show l1.length + j - l1.length = j by omega, hv]
theorem pt_x {w : World} {b : Nat} {t : TypeId} {x y z : Nat} {o : Bool} (h : Has w b (pt x y z o) t) : w.rangeAt b 0 (e4l x) := by
  have h2 : Has w b ([] ++ e4l x ++ (e4l y ++ e4l z ++ [Value.bool o])).toArray t := by simpa [pt] using h
  exact range_of h2
theorem pt_y {w : World} {b : Nat} {t : TypeId} {x y z : Nat} {o : Bool} (h : Has w b (pt x y z o) t) : w.rangeAt b 4 (e4l y) := by
  have h2 : Has w b (e4l x ++ e4l y ++ (e4l z ++ [Value.bool o])).toArray t := by simpa [pt] using h
  have := range_of h2
  rwa [e4l_len] at this
theorem pt_z {w : World} {b : Nat} {t : TypeId} {x y z : Nat} {o : Bool} (h : Has w b (pt x y z o) t) : w.rangeAt b 8 (e4l z) := by
  have h2 : Has w b ((e4l x ++ e4l y) ++ e4l z ++ [Value.bool o]).toArray t := by simpa [pt] using h
  have := range_of h2
  rwa [List.length_append, e4l_len, e4l_len] at this
theorem pt_w {w : World} {b : Nat} {t : TypeId} {x y z : Nat} {o : Bool} (h : Has w b (pt x y z o) t) : w.cell? ⟨b, 12, none⟩ = some (.bool o) := by
  rw [h.cellAt]; simp [pt, e4l_len]
theorem rp_x {w : World} {b : Nat} {t : TypeId} {x y z s : Nat} (h : Has w b (rp x y z s) t) : w.rangeAt b 0 (r22l x) := by
  have h2 : Has w b ([] ++ r22l x ++ (r22l y ++ r22l z ++ r22l s)).toArray t := by simpa [rp] using h
  exact range_of h2
theorem rp_y {w : World} {b : Nat} {t : TypeId} {x y z s : Nat} (h : Has w b (rp x y z s) t) : w.rangeAt b 22 (r22l y) := by
  have h2 : Has w b (r22l x ++ r22l y ++ (r22l z ++ r22l s)).toArray t := by simpa [rp] using h
  have := range_of h2
  rwa [r22l_len] at this
theorem rp_z {w : World} {b : Nat} {t : TypeId} {x y z s : Nat} (h : Has w b (rp x y z s) t) : w.rangeAt b 44 (r22l z) := by
  have h2 : Has w b ((r22l x ++ r22l y) ++ r22l z ++ r22l s).toArray t := by simpa [rp] using h
  have := range_of h2
  rwa [List.length_append, r22l_len, r22l_len] at this
theorem rp_t {w : World} {b : Nat} {t : TypeId} {x y z s : Nat} (h : Has w b (rp x y z s) t) : w.rangeAt b 66 (r22l s) := by
  have h2 : Has w b ((r22l x ++ r22l y ++ r22l z) ++ r22l s ++ []).toArray t := by simpa [rp] using h
  have := range_of h2
  rwa [List.length_append, List.length_append, r22l_len, r22l_len, r22l_len] at this

theorem bd36z : Try.prog.built 36 [] = some (e4 0) := by kernel_rfl
theorem bd40z : Try.prog.built 40 [] = some (r22 0) := by kernel_rfl
theorem bd53z : Try.prog.built 53 [] = some (pt 0 0 0 false) := by kernel_rfl
theorem bd53 (x y z : Nat) (b : Bool) : Try.prog.built 53 [(0, .agg (e4 x)), (1, .agg (e4 y)), (2, .agg (e4 z)), (3, .bool b)] = some (pt x y z b) := by kernel_rfl
theorem bd57 (x y z t : Nat) : Try.prog.built 57 [(0, .agg (r22 x)), (1, .agg (r22 y)), (2, .agg (r22 z)), (3, .agg (r22 t))] = some (rp x y z t) := by kernel_rfl
theorem bd57o (y z : Nat) : Try.prog.built 57 [(1, .agg (r22 y)), (2, .agg (r22 z))] = some (rp 0 y z 0) := by kernel_rfl
def z53 : Array Value := (#[.int .u64 0, .int .u64 0, .int .u64 0, .int .u64 0, .int .u64 0, .int .u64 0, .int .u64 0, .int .u64 0, .int .u64 0, .int .u64 0, .int .u64 0, .int .u64 0, .bool false] : Array Value)
theorem al53 (w : World) : (Instr.alloc 53 true (.tuple #[])).run Try.prog w = .ok (.pointer (some ⟨w.heap.size, 0, none⟩)) (w.alloc (.cells z53 53)) := by
  unfold z53
  go_simp
theorem al57 (w : World) : (Instr.alloc 57 true (.tuple #[])).run Try.prog w = .ok (.pointer (some ⟨w.heap.size, 0, none⟩)) (w.alloc (.cells Try.zeroCells57 57)) := by
  go_simp
theorem al4 (w : World) : (Instr.alloc 4 true (.tuple #[])).run Try.prog w = .ok (.pointer (some ⟨w.heap.size, 0, none⟩)) (w.alloc (.cells #[.bool false] 4)) := by
  go_simp
theorem z57_size : Try.zeroCells57.size = 88 := by kernel_rfl
/-- three results in cells -/
theorem results_cell3 {P : Program} {fn : Func} {p q r : Tmp} {ty : TypeId} (h : fn.results = #[.cell p ty, .cell q ty, .cell r ty]) (tmps : Array Value) (w : World) (g1 g2 g3 : Nat) (t1 t2 t3 : TypeId) (c1 c2 c3 : Array Value) (d : TypeDesc)
    (hp : tmps.getD p undef = .pointer (some ⟨g1, 0, none⟩)) (hq : tmps.getD q undef = .pointer (some ⟨g2, 0, none⟩)) (hr : tmps.getD r undef = .pointer (some ⟨g3, 0, none⟩))
    (h1 : w.heap[g1]? = some (.cells c1 t1 (0, 0))) (h2 : w.heap[g2]? = some (.cells c2 t2 (0, 0))) (h3 : w.heap[g3]? = some (.cells c3 t3 (0, 0)))
    (hu : P.underlying ty = some d) (hd : (match d with | .struct _ | .array _ _ => true | _ => false) = true) (i1 : (P.info? ty).map (·.size) = some c1.size) (i2 : (P.info? ty).map (·.size) = some c2.size) (i3 : (P.info? ty).map (·.size) = some c3.size) :
    (results fn tmps).run P w = .ok (.tuple #[.agg c1, .agg c2, .agg c3]) w := by
  have hp' : tmps[p]?.getD undef = .pointer (some ⟨g1, 0, none⟩) := by simpa using hp
  have hq' : tmps[q]?.getD undef = .pointer (some ⟨g2, 0, none⟩) := by simpa using hq
  have hr' : tmps[r]?.getD undef = .pointer (some ⟨g3, 0, none⟩) := by simpa using hr
  simp [results, h, hp', hq', hr', asAddr, run_loadVar_row w g1 t1 ty c1 _ d h1 hu hd i1, run_loadVar_row w g2 t2 ty c2 _ d h2 hu hd i2, run_loadVar_row w g3 t3 ty c3 _ d h3 hu hd i3]
end Go.Proofs.Ytjiagjonlcadiaa
