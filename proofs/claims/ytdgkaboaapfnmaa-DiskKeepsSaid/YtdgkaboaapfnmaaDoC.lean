/- The law's do: the walk: more kinds. -/
import Derived.Test.YtdgkaboaapfnmaaDoB
namespace Go.Proofs.Ytdgkaboaapfnmaa
open Go.RowKit Go.Sx
set_option linter.unusedVariables false

set_option maxRecDepth 100000 in
set_option maxHeartbeats 4000000 in
theorem do_3 (T : Two) (o : Opn) (h3 : o.kind = 3) (bv : Value) (rb : Nat → Prop) (w : World) (h : TwoP T w) (hD : Fits T.S.D) (hM : Fits T.M) (ho : OFits o) (hb : RdB rb w bv (Lib.byteCells o.b)) (hr : ∀ k, rb k → k < w.heap.size ∧ k ≠ T.S.bd ∧ k ≠ T.S.bm) :
    Calls Try.prog 15 ([ptr T.S.bd, .agg (rdC T.M T.fv), .agg #[.int .i64 o.kind, VS o.name, VS o.to, .int .i64 o.n, bv]] : List Value).toArray w (DoR T o w) := by
  obtain ⟨ba, bc, rfl⟩ := rdb_slice hb
  obtain ⟨S, M, fv, rr⟩ := T
  have hfvs : ∃ a n c, fv = .slice a n c := by obtain ⟨_, _, _, a, c, e, _⟩ := h.m; exact ⟨a, _, c, e⟩
  obtain ⟨fa, fn, fc, rfl⟩ := hfvs
  simp only at hD hM
  have st0 : St [bl S.bd, bl S.bm] w w [rs (dkR S), rs (mR rr (.slice fa fn fc) M.files), rs (oR rb (.slice ba o.b.length bc) o.b)] := two_start h hb hr
  show Calls Try.prog 15 ([ptr S.bd, .agg (rdC M (.slice fa fn fc)), .agg #[.int .i64 o.kind, VS o.name, VS o.to, .int .i64 o.n, .slice ba o.b.length bc]] : List Value).toArray w _
  refine (enter tab_ok Try.func15 rfl Try.ntmps15 rfl st0 (R := fun v w' => DoR ⟨S, M, .slice fa fn fc, rr⟩ o w (.returned v) w') ?_).mono (fun e w' ⟨v, he, h⟩ => by rw [he]; exact h)
  intro b4 b5 b6
  refine ld1 4 rfl (v := .slice ba o.b.length bc) rfl ?_
  refine cvC (x := o.b) (fun w1 hs => copy_any _ o.b ho.b w1 ((hs.res (k := 2) rfl).1.rd)) (fun b10 c10 j10 hR => ?_)
  refine ld1 4 rfl (v := .int .i64 o.kind) rfl ?_
  refine cf (by rw [h3]; rfl) ?_
  refine cf (by rw [h3]; rfl) ?_
  refine ct (by rw [h3]; rfl) ?_
  refine ld1 4 rfl rfl ?_
  refine ld1 4 rfl rfl ?_
  refine cTd 0 rfl (fun w1 hs => cut_any S o.name o.n w1 (hs.res (k := 0) rfl) hD.st hD.lf) (fun S' hS' hg => ?_)
  refine ldN 3 rfl rfl ?_
  refine ld1 4 rfl rfl ?_
  refine ld1 4 rfl rfl ?_
  refine cRf 1 rfl (fun w1 hs => rcut_any M _ rr o.name o.n hM.fl (fun f hf => (hM.sz f hf).2) hM.st hM.lf w1 (hs.res (k := 1) rfl).1 (hs.res (k := 1) rfl).2) (fun fv' rr' hfv' hrr' => ?_)
  obtain ⟨a', n', c', rfl⟩ := hfv'
  refine sN 3 rfl rfl (rdC_one (rcutD M o.name o.n).1 rfl) ?_ (by kernel_rfl)
  have hdo : doD S.D o = cutD S.D o.name o.n := by unfold doD; simp [h3]
  have hmo : doM M o = rcutD M o.name o.n := by unfold doM; simp [h3]
  have hsm : sameD S.D M o = true := if_pos (by simp [h3])
  iterate 3 refine ct rfl ?_
  refine ld1 4 rfl (v := .slice ba o.b.length bc) rfl ?_
  refine ct rfl ?_
  refine cvs (fun w1 hs => kept_yes ho.b rfl hR w1 (hs.nth (k := 6) rfl) (hs.res (k := 2) rfl).1.rd) ?_
  refine ct rfl ?_
  refine over_in 6 rfl hR ho.b ?_
  refine dr [dead, dead, dead, cl b4 (rdC ((rcutD M o.name o.n).1) (.slice a' n' c')) TR] 99 (.t 0 (.t 1 (.t 2 (.t 3 (.t 4 (.n 5 (.t 6 (.t 7 (.t 8 .nil))))))))) tab_ok mixed_ok (by kernel_rfl) (.dead (.dead (.dead (.cons .nil)))) ?_
  refine ldN 3 rfl rfl ?_
  refine cz (num_any ((cutD S.D o.name o.n).2)) ?_
  refine sN 5 rfl rfl (rdC_one ((rcutD M o.name o.n).1) rfl) ?_ (by kernel_rfl)
  refine ⟨(.dead (.dead (.dead (.cons .nil)))), ?_⟩
  refine ldN 5 rfl rfl ?_
  exact ⟨fun w1 hs => DoR.end (M' := (rcutD M o.name o.n).1) h hs 7 rfl rfl (by decide) (hg) (hrr') (hS'.trans (by rw [hdo])) (by rw [hmo]) (⟨_, _, _, rfl⟩) (by unfold doV; rw [hdo, hmo, hsm]; first | done | rfl)⟩
set_option maxRecDepth 100000 in
set_option maxHeartbeats 4000000 in
theorem do_4 (T : Two) (o : Opn) (h4 : o.kind = 4) (bv : Value) (rb : Nat → Prop) (w : World) (h : TwoP T w) (hD : Fits T.S.D) (hM : Fits T.M) (ho : OFits o) (hb : RdB rb w bv (Lib.byteCells o.b)) (hr : ∀ k, rb k → k < w.heap.size ∧ k ≠ T.S.bd ∧ k ≠ T.S.bm) :
    Calls Try.prog 15 ([ptr T.S.bd, .agg (rdC T.M T.fv), .agg #[.int .i64 o.kind, VS o.name, VS o.to, .int .i64 o.n, bv]] : List Value).toArray w (DoR T o w) := by
  obtain ⟨ba, bc, rfl⟩ := rdb_slice hb
  obtain ⟨S, M, fv, rr⟩ := T
  have hfvs : ∃ a n c, fv = .slice a n c := by obtain ⟨_, _, _, a, c, e, _⟩ := h.m; exact ⟨a, _, c, e⟩
  obtain ⟨fa, fn, fc, rfl⟩ := hfvs
  simp only at hD hM
  have st0 : St [bl S.bd, bl S.bm] w w [rs (dkR S), rs (mR rr (.slice fa fn fc) M.files), rs (oR rb (.slice ba o.b.length bc) o.b)] := two_start h hb hr
  show Calls Try.prog 15 ([ptr S.bd, .agg (rdC M (.slice fa fn fc)), .agg #[.int .i64 o.kind, VS o.name, VS o.to, .int .i64 o.n, .slice ba o.b.length bc]] : List Value).toArray w _
  refine (enter tab_ok Try.func15 rfl Try.ntmps15 rfl st0 (R := fun v w' => DoR ⟨S, M, .slice fa fn fc, rr⟩ o w (.returned v) w') ?_).mono (fun e w' ⟨v, he, h⟩ => by rw [he]; exact h)
  intro b4 b5 b6
  refine ld1 4 rfl (v := .slice ba o.b.length bc) rfl ?_
  refine cvC (x := o.b) (fun w1 hs => copy_any _ o.b ho.b w1 ((hs.res (k := 2) rfl).1.rd)) (fun b10 c10 j10 hR => ?_)
  refine ld1 4 rfl (v := .int .i64 o.kind) rfl ?_
  refine cf (by rw [h4]; rfl) ?_
  refine cf (by rw [h4]; rfl) ?_
  refine cf (by rw [h4]; rfl) ?_
  refine ct (by rw [h4]; rfl) ?_
  refine ld1 4 rfl rfl ?_
  refine ld1 4 rfl rfl ?_
  refine cTd 0 rfl (fun w1 hs => rename_any S o.name o.to ho.to w1 (hs.res (k := 0) rfl) hD.st hD.lf) (fun S' hS' hg => ?_)
  refine ldN 3 rfl rfl ?_
  refine ld1 4 rfl rfl ?_
  refine ld1 4 rfl rfl ?_
  refine cRf 1 rfl (fun w1 hs => rrename_any M _ rr o.name o.to ho.to hM.fl hM.st hM.lf w1 (hs.res (k := 1) rfl).1 (hs.res (k := 1) rfl).2) (fun fv' rr' hfv' hrr' => ?_)
  obtain ⟨a', n', c', rfl⟩ := hfv'
  refine sN 3 rfl rfl (rdC_one (rrenameD M o.name o.to).1 rfl) ?_ (by kernel_rfl)
  have hdo : doD S.D o = renameD S.D o.name o.to := by unfold doD; simp [h4]
  have hmo : doM M o = rrenameD M o.name o.to := by unfold doM; simp [h4]
  have hsm : sameD S.D M o = true := if_pos (by simp [h4])
  iterate 3 refine ct rfl ?_
  refine ld1 4 rfl (v := .slice ba o.b.length bc) rfl ?_
  refine ct rfl ?_
  refine cvs (fun w1 hs => kept_yes ho.b rfl hR w1 (hs.nth (k := 6) rfl) (hs.res (k := 2) rfl).1.rd) ?_
  refine ct rfl ?_
  refine over_in 6 rfl hR ho.b ?_
  refine dr [dead, dead, dead, cl b4 (rdC ((rrenameD M o.name o.to).1) (.slice a' n' c')) TR] 99 (.t 0 (.t 1 (.t 2 (.t 3 (.t 4 (.n 5 (.t 6 (.t 7 (.t 8 .nil))))))))) tab_ok mixed_ok (by kernel_rfl) (.dead (.dead (.dead (.cons .nil)))) ?_
  refine ldN 3 rfl rfl ?_
  refine cz (num_any ((renameD S.D o.name o.to).2)) ?_
  refine sN 5 rfl rfl (rdC_one ((rrenameD M o.name o.to).1) rfl) ?_ (by kernel_rfl)
  refine ⟨(.dead (.dead (.dead (.cons .nil)))), ?_⟩
  refine ldN 5 rfl rfl ?_
  exact ⟨fun w1 hs => DoR.end (M' := (rrenameD M o.name o.to).1) h hs 7 rfl rfl (by decide) (hg) (hrr') (hS'.trans (by rw [hdo])) (by rw [hmo]) (⟨_, _, _, rfl⟩) (by unfold doV; rw [hdo, hmo, hsm]; first | done | rfl)⟩
end Go.Proofs.Ytdgkaboaapfnmaa
