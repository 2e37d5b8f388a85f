/- The disk: its files as a list, in plain words. -/
import Derived.Test.YtdgkaboaapfnmaaDkB
namespace Go.Proofs.Ytdgkaboaapfnmaa
open Go.RowKit Go.Sx
set_option linter.unusedVariables false

def findF (n : List UInt8) : List Fe → Option Fe
  | [] => none
  | f :: l => if n = f.name then some f else findF n l
def setF (f : Fe) : List Fe → List Fe
  | [] => [f]
  | g :: l => if f.name = g.name then f :: l else g :: setF f l
def delF (n : List UInt8) : List Fe → List Fe
  | [] => []
  | g :: l => if n = g.name then l else g :: delF n l
theorem findF_mem {n : List UInt8} {fs : List Fe} {f : Fe} (h : findF n fs = some f) : f ∈ fs ∧ f.name = n := by
  induction fs with
  | nil => cases h
  | cons g l ih =>
    unfold findF at h
    split at h
    · rename_i hn
      obtain rfl := Option.some.inj h
      exact ⟨List.mem_cons_self, hn.symm⟩
    · exact ⟨List.mem_cons_of_mem _ (ih h).1, (ih h).2⟩
theorem findF_none {n : List UInt8} {fs : List Fe} : findF n fs = none ↔ n ∉ fs.map (·.name) := by
  induction fs with
  | nil => simp [findF]
  | cons g l ih =>
    unfold findF
    by_cases h : n = g.name
    · simp [h]
    · simp [h, ih]
theorem getF {rr : Nat → Prop} {u : World} {es : Es (List UInt8)} {fs : List Fe} (h : All2 (EF rr u) es fs) (n : List UInt8) :
    (findF n fs = none ∧ getS n es = none) ∨ ∃ f v, findF n fs = some f ∧ getS n es = some (.agg #[v, .int .i64 f.sure]) ∧ RdR rr u v (Lib.byteCells f.bs) := by
  induction h with
  | nil => exact .inl ⟨rfl, rfl⟩
  | @cons e f l m h1 _ ih =>
    obtain ⟨h2, v, h3, h4⟩ := h1
    unfold findF
    rw [getS_cons, h2]
    by_cases h : n = f.name
    · right
      rw [if_pos h, if_pos h, h3]
      exact ⟨f, v, rfl, rfl, h4⟩
    · rw [if_neg h, if_neg h]; exact ih
theorem all2_set {rr : Nat → Prop} {u : World} {es : Es (List UInt8)} {fs : List Fe} (h : All2 (EF rr u) es fs) (f : Fe) (v : Value) (clk : Nat) (hv : RdR rr u v (Lib.byteCells f.bs)) :
    All2 (EF rr u) (setS f.name (.agg #[v, .int .i64 f.sure]) clk es) (setF f fs) := by
  induction h with
  | nil => exact .cons ⟨rfl, v, rfl, hv⟩ .nil
  | @cons e g l m h1 h0 ih =>
    obtain ⟨h2, v', h3, h4⟩ := h1
    unfold setS setF
    rw [h2]
    by_cases h : f.name = g.name
    · rw [if_pos h, if_pos h]; exact .cons ⟨rfl, v, rfl, hv⟩ h0
    · rw [if_neg h, if_neg h]; exact .cons ⟨h2, v', h3, h4⟩ ih
theorem all2_del {rr : Nat → Prop} {u : World} {es : Es (List UInt8)} {fs : List Fe} (h : All2 (EF rr u) es fs) (n : List UInt8) : All2 (EF rr u) (delS n es) (delF n fs) := by
  induction h with
  | nil => exact .nil
  | @cons e g l m h1 h0 ih =>
    obtain ⟨h2, v', h3, h4⟩ := h1
    unfold delS delF
    rw [h2]
    by_cases h : n = g.name
    · rw [if_pos h, if_pos h]; exact h0
    · rw [if_neg h, if_neg h]; exact .cons ⟨h2, v', h3, h4⟩ ih
theorem setF_names (f : Fe) (fs : List Fe) : (setF f fs).map (·.name) = if f.name ∈ fs.map (·.name) then fs.map (·.name) else fs.map (·.name) ++ [f.name] := by
  induction fs with
  | nil => simp [setF]
  | cons g l ih =>
    unfold setF
    by_cases h : f.name = g.name
    · simp [h]
    · rw [if_neg h, List.map_cons, ih]
      simp only [List.map_cons, List.mem_cons, h, false_or]
      split <;> rfl
theorem setF_mem {f g : Fe} {fs : List Fe} (h : g ∈ setF f fs) : g = f ∨ g ∈ fs := by
  induction fs with
  | nil => exact .inl (by simpa [setF] using h)
  | cons k l ih =>
    unfold setF at h
    split at h
    · rcases List.mem_cons.1 h with h | h
      · exact .inl h
      · exact .inr (List.mem_cons_of_mem _ h)
    · rcases List.mem_cons.1 h with h | h
      · exact .inr (h ▸ List.mem_cons_self)
      · exact (ih h).imp id (List.mem_cons_of_mem _)
theorem delF_sub (n : List UInt8) (fs : List Fe) : (delF n fs).Sublist fs := by
  induction fs with
  | nil => exact List.Sublist.refl _
  | cons g l ih =>
    unfold delF
    split
    · exact List.sublist_cons_self _ _
    · exact ih.cons_cons _
theorem delS_sub {κ : Type} [DecidableEq κ] (n : κ) (fs : Es κ) : (delS n fs).Sublist fs := by
  induction fs with
  | nil => exact List.Sublist.refl _
  | cons g l ih =>
    unfold delS
    split
    · exact List.sublist_cons_self _ _
    · exact ih.cons_cons _
theorem setS_born {κ : Type} [DecidableEq κ] (k : κ) (v : Value) (clk : Nat) (es : Es κ) : (setS k v clk es).map (·.2.2) = if (getS k es).isSome then es.map (·.2.2) else es.map (·.2.2) ++ [clk] := by
  induction es with
  | nil => simp [setS, getS, findS]
  | cons e l ih =>
    unfold setS
    rw [getS_cons]
    by_cases h : k = e.1
    · simp [h]
    · simp only [if_neg h, List.map_cons, ih]
      split <;> rfl
theorem setS_lt {κ : Type} [DecidableEq κ] (k : κ) (v : Value) (clk : Nat) (es : Es κ) (h : ∀ e ∈ es, e.2.2 < clk) : ∀ e ∈ setS k v clk es, e.2.2 < clkS k es clk := by
  intro e he
  have h1 : e.2.2 ∈ (setS k v clk es).map (·.2.2) := List.mem_map_of_mem he
  rw [setS_born] at h1
  unfold clkS
  split at h1
  · rename_i hs
    rw [if_pos hs]
    obtain ⟨e', he', h2⟩ := List.mem_map.1 h1
    have := h e' he'
    omega
  · rename_i hs
    rw [if_neg hs]
    rcases List.mem_append.1 h1 with h1 | h1
    · obtain ⟨e', he', h2⟩ := List.mem_map.1 h1
      have := h e' he'
      omega
    · simp only [List.mem_singleton] at h1; omega
theorem FilesOk.set {rr : Nat → Prop} {u : World} {es : Es (List UInt8)} {clk : Nat} {fs : List Fe} (h : FilesOk rr u es clk fs) (f : Fe) (v : Value) (hv : RdR rr u v (Lib.byteCells f.bs)) (h1 : f.sure ≤ f.bs.length) (h2 : f.bs.length ≤ 16777216) (h3 : f.name.length ≤ 64) :
    FilesOk rr u (setS f.name (.agg #[v, .int .i64 f.sure]) clk es) (clkS f.name es clk) (setF f fs) := by
  refine ⟨all2_set h.all f v clk hv, ?_, setS_lt _ _ _ _ h.lt, ?_, fun g hg => ?_⟩
  · rw [setS_born]
    split
    · exact h.nb
    · refine List.nodup_append.2 ⟨h.nb, by simp, ?_⟩
      intro a ha b hb
      obtain ⟨e, he, rfl⟩ := List.mem_map.1 ha
      have := h.lt e he
      simp only [List.mem_singleton] at hb
      omega
  · rw [setF_names]
    split
    · exact h.nn
    · rename_i hn
      refine List.nodup_append.2 ⟨h.nn, by simp, ?_⟩
      intro a ha b hb
      simp only [List.mem_singleton] at hb
      rintro rfl
      exact hn (hb ▸ ha)
  · rcases setF_mem hg with rfl | hg
    · exact ⟨h1, h2, h3⟩
    · exact h.sz g hg
theorem FilesOk.del {rr : Nat → Prop} {u : World} {es : Es (List UInt8)} {clk : Nat} {fs : List Fe} (h : FilesOk rr u es clk fs) (n : List UInt8) : FilesOk rr u (delS n es) clk (delF n fs) :=
  ⟨all2_del h.all n, ((delS_sub n es).map _).nodup h.nb, fun e he => h.lt e ((delS_sub n es).subset he), ((delF_sub n fs).map _).nodup h.nn, fun f hf => h.sz f ((delF_sub n fs).subset hf)⟩
theorem FilesOk.mono {rr rr' : Nat → Prop} {u : World} {es : Es (List UInt8)} {clk : Nat} {fs : List Fe} (hr : ∀ k, rr k → rr' k) (h : FilesOk rr u es clk fs) : FilesOk rr' u es clk fs := ⟨h.all.imp fun _ _ h => h.mono hr, h.nb, h.lt, h.nn, h.sz⟩
/-- the zero file -/
def zF : Value := .agg #[.slice none 0 0, .int .i64 0]
theorem zeroF : (Try.prog.info? TF).bind (·.zero) = some zF := by kernel_rfl
/-- what a look-up finds -/
theorem get_shape {rr : Nat → Prop} {u : World} {es : Es (List UInt8)} {fs : List Fe} (h : All2 (EF rr u) es fs) (n : List UInt8) : ∃ a l c k, (getS n es).getD zF = .agg #[.slice a l c, .int .i64 k] := by
  rcases getF h n with ⟨_, h2⟩ | ⟨f, v, _, h2, h3⟩
  · exact ⟨none, 0, 0, 0, by rw [h2]; rfl⟩
  · obtain ⟨a, c, h4, _⟩ := h3
    exact ⟨a, _, c, _, by rw [h2, h4]; rfl⟩
set_option maxRecDepth 100000 in
theorem has_any (S : DkS) (n : List UInt8) (w : World) (h : DkP S w) : Calls Try.prog 52 ([ptr S.bd, VS n] : List Value).toArray w fun e w' => e = .returned (.tuple #[(getS n S.es).getD zF, if (getS n S.es).isSome then .nilIface else ErrN 5]) ∧ Below w.heap.size w w' := by
  obtain ⟨a, l, c, k, hv⟩ := get_shape h.f.all n
  refine enterV tab_ok Try.func52 rfl Try.ntmps52 rfl (dk_ro h) ?_
  intro b4
  refine cf rfl ?_
  refine ld1 0 rfl (v := .map (some S.bm)) rfl ?_
  refine lkp (ke := keS) (k := n) 1 rfl undM keyM zeroF ?_
  rw [if_pos rfl, hv]
  intro b6
  refine sN 3 rfl rfl rfl ?_ (by kernel_rfl)
  cases hs : (getS n S.es).isSome with
  | true =>
    refine cf rfl ?_
    refine ldN 3 rfl rfl ?_
    refine sN 2 rfl rfl rfl ?_ (by kernel_rfl)
    refine ldN 2 rfl rfl ?_
    exact rt rfl
  | false =>
    refine ct rfl ?_
    refine ldN 3 rfl rfl ?_
    refine sN 2 rfl rfl rfl ?_ (by kernel_rfl)
    refine ldN 2 rfl rfl ?_
    exact rt rfl
set_option maxRecDepth 100000 in
theorem sure_any (S : DkS) (n : List UInt8) (w : World) (h : DkP S w) : Calls Try.prog 25 ([ptr S.bd, VS n] : List Value).toArray w fun e w' => e = .returned (.int .i64 (match findF n S.D.files with | none => -1 | some f => (f.sure : Int))) ∧ Below w.heap.size w w' := by
  have hh := fun w' (hs : Below w.heap.size w w') => has_any S n w' ((dkR S).st w w' (fun k hk => hs.block k ((dkR S).bd w h k hk)) h)
  refine enterV tab_ok Try.func25 rfl Try.ntmps25 rfl (St.start w) ?_
  refine cvs (fun w' hs => hh w' hs.below) ?_
  rcases getF h.f.all n with ⟨h1, h2⟩ | ⟨f, v, h1, h2, h3⟩
  · rw [h1, h2]
    intro b
    refine sN 0 rfl rfl rfl ?_ (by kernel_rfl)
    refine ct rfl ?_
    exact rt rfl
  · obtain ⟨a, c, rfl, _⟩ := h3
    rw [h1, h2]
    intro b
    refine sN 0 rfl rfl rfl ?_ (by kernel_rfl)
    refine cf rfl ?_
    refine ld1 0 rfl (v := .int .i64 f.sure) rfl ?_
    exact rt rfl
end Go.Proofs.Ytdgkaboaapfnmaa
