/- For every row of bytes the law SegsNone returns true, and the bytes read as they did; no condition. -/
import Derived.Test.YteamnhpplclmfaaGreatDoorSb6
section
namespace Go.Proofs.YteamnhpplclmfaaGreatDoor
open Go.RowKit Go.Sx
set_option linter.unusedVariables false
set_option maxRecDepth 100000 in
theorem app_nil (v : Value) (w : World) : Calls Tryz.prog 12 ([.pointer none, v] : List Value).toArray w fun e w' => e = .returned (errV 12) ∧ Below w.heap.size w w' := by
  refine enterV tab_ok Tryz.func12 rfl Tryz.ntmps12 rfl (St.start w) ?_
  intro b2
  refine ld1 0 rfl rfl ?_
  refine cv (ready_nil) ?_
  refine ct rfl ?_
  exact rt rfl
set_option maxRecDepth 100000 in
theorem sync_nil (w : World) : Calls Tryz.prog 13 ([.pointer none] : List Value).toArray w fun e w' => e = .returned (errV 12) ∧ Below w.heap.size w w' := by
  refine enterV tab_ok Tryz.func13 rfl Tryz.ntmps13 rfl (St.start w) ?_
  refine cv (ready_nil) ?_
  refine ct rfl ?_
  exact rt rfl
set_option maxRecDepth 100000 in
set_option maxHeartbeats 1000000 in
theorem law_none (a : Option Addr) (n c : Nat) (w : World) (hw : Laid w) : Calls Tryz.prog 3 ([.slice a n c] : List Value).toArray w fun e w' => e = .returned (.bool true) ∧ Below w.heap.size w w' := by
  refine enterV tab_ok Tryz.func3 rfl Tryz.ntmps3 rfl (St.laid hw) ?_
  intro b2
  refine cvs (fun w1 hs => alive_any w1 (hs.res (k := 0) rfl)) ?_
  refine cf rfl ?_
  refine inl (C := ⟨Tryz.prog, tab, _, [], w, _⟩) tab_ok Tryz.func10 rfl Tryz.ntmps10 rfl ?_
  intro b1
  refine bk ?_
  refine rfiO (C := ⟨Tryz.prog, tab, 40, [], w, none⟩) (L0 := [rs laidR, cl b2 #[.bool false] 4, cl b1 #[.pointer none] TPS]) (α := Unit) (β := Empty) tab_ok rfl rfl rfl
    (nlall_itr b1) (fun _ _ => True) (fun _ _ => []) (fun y => y.elim) (fun y => y.elim) () trivial ?_
    (fun w' hs => ⟨hs.nth (k := 2) rfl, fun b hb e he => by cases he⟩) ?_ ?_ ?_ ?_
  · exact .refl _
  · intro i args q j h; exact h.elim
  · intro l i args q j x w ready busy h; exact h.elim
  · intro i y b0 _ _
    refine .mk _ _ (bsS1 _ _ _) (fun b3 => ?_)
    refine cv (app_nil _) ?_
    refine cv (is_any 12 12) ?_
    iterate 2 refine ct rfl ?_
    refine cv (sync_nil) ?_
    refine ct rfl ?_
    refine cv (is_any 12 12) ?_
    iterate 3 refine ct rfl ?_
    refine cv (stuck_nil) ?_
    refine ct rfl ?_
    refine cv (is_any 12 12) ?_
    iterate 3 refine ct rfl ?_
    refine cv (len_nil) ?_
    iterate 4 refine ct rfl ?_
    refine cv (sureS_nil) ?_
    iterate 4 refine ct rfl ?_
    refine cv (last_nil) ?_
    iterate 2 refine ct rfl ?_
    refine s1 1 rfl (by show 0 < 1; decide) ?_
    refine .mk 3 rfl ?_
    refine ld1 1 rfl rfl ?_
    exact rt rfl
  · intro y; exact y.elim
end Go.Proofs.YteamnhpplclmfaaGreatDoor
end
