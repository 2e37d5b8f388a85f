/- What the laws of chapter 12 share: the engine, the program's json and the reference's, with Check and Good. -/
import Derived.Test.YtpegkoklmhccjaaDoorJb4
section
namespace Go.Proofs.YtpegkoklmhccjaaDoor
open Go.RowKit Go.Sx
set_option linter.unusedVariables false
theorem good_any : ∀ (r d : Nat), d + r = 8 → ∀ (c : CT) (j : JV) (A : Nat → Prop) (w : World), HeldT w A c j → Calls Tryd.prog 22 ([.agg c.cs.toArray, .int .i64 (d : Int)] : List Value).toArray w fun e w' => e = .returned (.bool (sndD r j)) ∧ Below w.heap.size w w' := by
  intro r
  induction r with
  | zero => intro d hd; exact good_core (fun _ => false) false d (by simp; omega) (by omega) fun h => by omega
  | succ r ih => intro d hd; exact good_core (sndD r) true d (by simp; omega) (by omega) fun _ => ih (d + 1) (by omega)
set_option maxRecDepth 100000 in
set_option maxHeartbeats 4000000 in
theorem law_checks (A : Nat → Prop) (c : CT) (j : JV) (w : World) (h : HeldT w A c j) (hw : Laid w) : Calls Tryd.prog 6 ([.agg c.cs.toArray] : List Value).toArray w fun e w' => e = .returned (.bool true) ∧ Below w.heap.size w w' := by
  have hcs := h.2.cs
  have h5 : c.cs.toArray.size = 5 := by rw [List.size_toArray, CT.cs5]
  refine enterV tab_ok Tryd.func6 rfl Tryd.ntmps6 rfl (St.rdLT3 h hw) ?_
  intro b1
  refine cvs (fun w hs => alive_any w (hs.res (k := 0) rfl)) ?_
  refine cf rfl ?_
  refine ldN 2 rfl h5 ?_
  refine ce (Φ := fun x : Nat => 1 ≤ x ∧ x ≤ 500 + 1) (v := fun x => .int .i64 (x : Nat)) (fun w hs => many_any hcs A 500 w (by decide) (hs.res (k := 1) rfl)) (fun x hx => ?_)
  refine cd (fun hbig => ?_) (fun hbig => ?_)
  · exact rt rfl
  refine ldN 2 rfl h5 ?_
  have hc := check_any c j A
  have hg := good_any 8 0 rfl c j A
  cases hj : sndD 8 j with
  | true =>
    rw [hj] at hc hg
    refine cvs (fun w hs => hc w (hs.res (k := 1) rfl) (hs.res (k := 0) rfl)) ?_
    refine dr [rs (rdT A c j), cl b1 c.cs.toArray TV] 99 (.t 0 (.t 1 (.t 2 (.t 3 (.t 4 (.t 5 (.t 6 (.t 7 (.t 8 (.t 9 (.t 10 (.t 11 (.t 12 (.t 13 .nil)))))))))))))) tab_ok mixed_ok (by kernel_rfl) (.drop (.cons (.cons .nil))) ?_
    refine ldN 1 rfl h5 ?_
    refine czs (fun w hs => hg w (hs.res (k := 0) rfl)) ?_
    iterate 3 refine ct rfl ?_
    iterate 2 refine cf rfl ?_
    iterate 3 refine ct rfl ?_
    exact rt rfl
  | false =>
    rw [hj] at hc hg
    refine cvs (fun w hs => hc w (hs.res (k := 1) rfl) (hs.res (k := 0) rfl)) ?_
    refine dr [rs (rdT A c j), cl b1 c.cs.toArray TV] 99 (.t 0 (.t 1 (.t 2 (.t 3 (.t 4 (.t 5 (.t 6 (.t 7 (.t 8 (.t 9 (.t 10 (.t 11 (.t 12 (.t 13 .nil)))))))))))))) tab_ok mixed_ok (by kernel_rfl) (.drop (.cons (.cons .nil))) ?_
    refine ldN 1 rfl h5 ?_
    refine czs (fun w hs => hg w (hs.res (k := 0) rfl)) ?_
    iterate 5 refine ct rfl ?_
    refine czs (fun w hs => is_any 1 1 w) ?_
    refine ct rfl ?_
    refine cf rfl ?_
    refine ct rfl ?_
    exact rt rfl
end Go.Proofs.YtpegkoklmhccjaaDoor
end
