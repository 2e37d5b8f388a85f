/- Chapter 12: what a text says: Parse. -/
import Derived.Test.YtpegkoklmhccjaaDoorJsS
import Derived.Test.YtpegkoklmhccjaaDoorNmJ
namespace Go.Proofs.YtpegkoklmhccjaaDoor
open Go.RowKit Go.Sx
set_option linter.unusedVariables false
theorem value_any (b : Nat) : ∀ (r d : Nat), d + r = 8 → VIs (jvD r) b d := by
  intro r
  induction r with
  | zero =>
    intro d hd
    exact value_of (fun t w hl h hw => list_deep (by omega) hl h hw) fun t w hl h hw => object_deep (by omega) hl h hw
  | succ r ih =>
    intro d hd
    have hV := ih (d + 1) (by omega)
    exact value_of (fun t w hl h hw => list_any (by omega) hV hl h hw) fun t w hl h hw => object_any (by omega) hV hl h hw
/-- the value of a text -/
def parseP (l : Bs) : Option JV := match jvD 8 l with
  | none => none
  | some (j, u) => if ws u = [] then some j else none
structure PO where
  j : JV
  cs : List Value
  code : Nat
def PF (l : Bs) (x : PO) : Prop := (4096 < l.length ∧ x.code = 10 ∧ x.j = .mk 0 0 [] [] []) ∨ (l.length ≤ 4096 ∧ parseP l = none ∧ x.code = 1 ∧ x.j = .mk 0 0 [] [] []) ∨ (l.length ≤ 4096 ∧ parseP l = some x.j ∧ x.code = 0)
set_option maxRecDepth 100000 in
theorem parse_any (v : Value) (l : Bs) (hm : l.length ≤ maxLen) (w : World) (hv : Rd w v (Lib.byteCells l)) (hw : Laid w) : Calls Tryd.prog 14 ([v] : List Value).toArray w fun e w' => ∃ x : PO, PF l x ∧ e = .returned (.tuple #[.agg x.cs.toArray, errV x.code]) ∧ Below w.heap.size w w' ∧ ∃ A : Nat → Prop, (∀ k, A k → w.heap.size ≤ k) ∧ Held w' A [(x.j, x.cs)] := by
  obtain ⟨a, c, hv0, _⟩ := id hv
  rw [Lib.byteCells_length] at hv0
  refine (enter (R := fun u w' => ∃ x : PO, PF l x ∧ u = .tuple #[.agg x.cs.toArray, errV x.code] ∧ Below w.heap.size w w' ∧ ∃ A : Nat → Prop, (∀ k, A k → w.heap.size ≤ k) ∧ Held w' A [(x.j, x.cs)]) tab_ok (g := 14) Tryd.func14 rfl Tryd.ntmps14 (vs := [v]) rfl (St.laid hw) ?_).mono fun e w' ⟨u, he, x, hx, hu, h2⟩ => ⟨x, hx, by rw [he, hu], h2⟩
  subst hv0
  intro b2
  refine cd (fun h => ?_) (fun h => ?_)
  · refine bu (c := valC 0 0 []) rfl ?_
    refine sN 1 rfl rfl (by simp [Value.oneCell']) ?_ (by kernel_rfl)
    refine ldN 1 rfl rfl ?_
    exact ⟨fun w' hs => ⟨⟨.mk 0 0 [] [] [], vcl 0 0 [] (.slice none 0 0) (.slice none 0 0), 10⟩, .inl ⟨by omega, rfl, rfl⟩, rfl, hs.below, fun _ => False, fun k h => h.elim, held_leaf ..⟩⟩
  · have hl4 : l.length ≤ 4096 := by omega
    refine semV (v := sj l) (fun w' hs => rd_str (hv.below hs.below)) ?_
    refine bu (c := rdC l false 0) rfl ?_
    intro b4
    refine cUV 2 rfl rfl (fun w hs => value_any b4 8 0 rfl l w (by omega) (hs.nth (k := 2) rfl) (hs.res (k := 0) rfl)) (fun x A w0 hx hH => ?_)
    obtain ⟨j, cs, u, bd⟩ := x
    have hcs := hH.2 _ (List.mem_singleton.2 rfl)
    have hc5 := hcs.len
    have hc1 := hcs.one
    obtain ⟨hu, hx⟩ := hx
    dsimp only at hc5 hc1 hu hx ⊢
    have hwu := ws_len u
    intro b5
    refine sN 4 rfl (by rw [List.size_toArray, hc5]; rfl) (by simpa using hc1) ?_ (by rw [List.size_toArray, hc5]; kernel_rfl)
    refine cU1 2 rfl (fun w h => blanks_any (by omega) h) ?_
    refine ld1 2 rfl (v := .bool bd) rfl ?_
    rcases hx with ⟨hx, rfl⟩ | ⟨hx, rfl⟩
    · have hq : parseP l = none := by unfold parseP; rw [hx]
      iterate 5 refine cf rfl ?_
      iterate 2 refine ct rfl ?_
      refine bu (c := valC 0 0 []) rfl ?_
      refine sN 1 rfl rfl (by simp [Value.oneCell']) ?_ (by kernel_rfl)
      refine ldN 1 rfl rfl ?_
      exact ⟨fun w' hs => ⟨⟨.mk 0 0 [] [] [], vcl 0 0 [] (.slice none 0 0) (.slice none 0 0), 1⟩, .inr (.inl ⟨hl4, hq, rfl, rfl⟩), rfl, hs.below, fun _ => False, fun k h => h.elim, held_leaf ..⟩⟩
    · iterate 4 refine ct rfl ?_
      refine ld1 2 rfl (v := sj (ws u)) rfl ?_
      refine ct rfl ?_
      refine cf rfl ?_
      cases hws : ws u with
      | nil =>
        have hq : parseP l = some j := by unfold parseP; rw [hx]; exact if_pos hws
        refine cf (by simp) ?_
        refine ldN 4 rfl (by rw [List.size_toArray, hc5]) ?_
        refine sN 1 rfl (by rw [List.size_toArray, hc5]; rfl) (by simpa using hc1) ?_ (by rw [List.size_toArray, hc5]; kernel_rfl)
        refine ldN 1 rfl (by rw [List.size_toArray, hc5]) ?_
        exact ⟨fun w' hs => ⟨⟨j, cs, 0⟩, .inr (.inr ⟨hl4, hq, rfl⟩), rfl, hs.below, A, fun i hi => (hs.ownW _ (List.mem_of_getElem? (i := 3) rfl) i ((rsW (heldR A [(j, cs)]) i).2 hi)).elim id (fun h => by simp at h), hs.res (k := 3) rfl⟩⟩
      | cons x t =>
        have hq : parseP l = none := by unfold parseP; rw [hx]; exact if_neg (by rw [hws]; simp)
        refine ct (by rw [ne0]; rfl) ?_
        refine bu (c := valC 0 0 []) rfl ?_
        refine sN 1 rfl rfl (by simp [Value.oneCell']) ?_ (by kernel_rfl)
        refine ldN 1 rfl rfl ?_
        exact ⟨fun w' hs => ⟨⟨.mk 0 0 [] [] [], vcl 0 0 [] (.slice none 0 0) (.slice none 0 0), 1⟩, .inr (.inl ⟨hl4, hq, rfl, rfl⟩), rfl, hs.below, fun _ => False, fun k h => h.elim, held_leaf ..⟩⟩
end Go.Proofs.YtpegkoklmhccjaaDoor
