/- Chapter 12: the reader: objects, one pair. -/
import Derived.Test.YtpegkoklmhccjaaDoorJsN
namespace Go.Proofs.YtpegkoklmhccjaaDoor
open Go.RowKit Go.Sx
set_option linter.unusedVariables false
theorem held_leaf (w : World) (k i : Int) (s : Bs) : Held w (fun _ => False) [(.mk k i s [] [], vcl k i s (.slice none 0 0) (.slice none 0 0))] :=
  ⟨fun k h => h.elim, fun x hx => by
    obtain rfl : x = _ := by simpa using hx
    exact Rv.leaf ..⟩
section
variable {b : Nat} {s : Bs} {bad : Bool} {D : Int} {w : World}
set_option maxRecDepth 100000 in
/-- nothing is left, or it is bad: no value -/
theorem value_fail (hb : ws s = [] ∨ bad = true) (hl : s.length ≤ 100000) (h : w.heap[b]? = some (.cells (rdC s bad D) TRd (0, 0))) : ValC 26 [pj b] none s b D w := by
  refine enterVC tab_ok Tryd.func26 rfl Tryd.ntmps26 rfl (St.onlyU h) ?_
  have hw := ws_len s
  have fin : ∀ (w' : World) (L : List Ent), St [bl b] w w' (cl b (rdC (ws s) true D) TRd :: L) → ∃ x : VO, VF none s x ∧ Value.agg (valC 0 0 []) = .agg x.cs.toArray ∧ Upd b (rdC x.t x.bad D) TRd w w' ∧ ∃ A : Nat → Prop, (∀ k, A k → w.heap.size ≤ k) ∧ Held w' A [(x.j, x.cs)] := fun w' L hs =>
    ⟨⟨.mk 0 0 [] [] [], vcl 0 0 [] (.slice none 0 0) (.slice none 0 0), ws s, true⟩, ⟨hw, .inl ⟨rfl, rfl⟩⟩, rfl, hs.updU, fun _ => False, fun k h => h.elim, held_leaf ..⟩
  intro b2
  refine cU1 0 rfl (fun w h => blanks_any hl h) ?_
  refine ld1 0 rfl (v := sj (ws s)) rfl ?_
  cases hs : ws s with
  | nil =>
    iterate 4 refine cf (by simp) ?_
    refine ct (by simp) ?_
    refine ct rfl ?_
    refine cU1 0 rfl (fun w h => fail_any h) ?_
    refine bu (c := valC 0 0 []) rfl ?_
    refine sN 1 rfl rfl (by simp [Value.oneCell']) ?_ (by kernel_rfl)
    refine ldN 1 rfl rfl ?_
    exact ⟨fun w' h' => fin w' _ (by rw [hs]; exact h')⟩
  | cons c t =>
    have hbad : bad = true := by rcases hb with h1 | h1; · rw [hs] at h1; cases h1
                                 · exact h1
    subst hbad
    iterate 4 refine ct (ne0b c t) ?_
    refine ld1 0 rfl rfl ?_
    refine cf (ne0 c t) ?_
    refine ct rfl ?_
    refine cU1 0 rfl (fun w h => fail_any h) ?_
    refine bu (c := valC 0 0 []) rfl ?_
    refine sN 1 rfl rfl (by simp [Value.oneCell']) ?_ (by kernel_rfl)
    refine ldN 1 rfl rfl ?_
    exact ⟨fun w' h' => fin w' _ (by rw [hs]; exact h')⟩
end
end Go.Proofs.YtpegkoklmhccjaaDoor
