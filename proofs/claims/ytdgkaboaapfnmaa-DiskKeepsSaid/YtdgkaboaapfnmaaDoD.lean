/- The law's do: the walk: more kinds. -/
import Derived.Test.YtdgkaboaapfnmaaDoB
namespace Go.Proofs.Ytdgkaboaapfnmaa
open Go.RowKit Go.Sx
set_option linter.unusedVariables false

set_option maxRecDepth 100000 in
set_option maxHeartbeats 4000000 in
theorem do_5 (T : Two) (o : Opn) (h5 : o.kind = 5) (bv : Value) (rb : Nat → Prop) (w : World) (h : TwoP T w) (hD : Fits T.S.D) (hM : Fits T.M) (ho : OFits o) (hb : RdB rb w bv (Lib.byteCells o.b)) (hr : ∀ k, rb k → k < w.heap.size ∧ k ≠ T.S.bd ∧ k ≠ T.S.bm) :
    Calls Try.prog 15 ([ptr T.S.bd, .agg (rdC T.M T.fv), .agg #[.int .i64 o.kind, VS o.name, VS o.to, .int .i64 o.n, bv]] : List Value).toArray w (DoR T o w) := by
  obtain ⟨ba, bc, rfl⟩ := rdb_slice hb
  obtain ⟨S, M, fv, rr⟩ := T
  have hfvs : ∃ a n c, fv = .slice a n c := by obtain ⟨_, _, _, a, c, e, _⟩ := h.m; exact ⟨a, _, c, e⟩
  obtain ⟨fa, fn, fc, rfl⟩ := hfvs
  simp only at hD hM
  have st0 : St [bl S.bd, bl S.bm] w w [rs (dkR S), rs (mR rr (.slice fa fn fc) M.files), rs (oR rb (.slice ba o.b.length bc) o.b)] := two_start h hb hr
  show Calls Try.prog 15 ([ptr S.bd, .agg (rdC M (.slice fa fn fc)), .agg #[.int .i64 o.kind, VS o.name, VS o.to, .int .i64 o.n, .slice ba o.b.length bc]] : List Value).toArray w _
  refine (enter tab_ok Try.func15 rfl Try.ntmps15 rfl st0 (R := fun v w' => DoR ⟨S, M, .slice fa fn fc, rr⟩ o w (.returned v) w') ?_).mono (fun e w' ⟨v, he, h⟩ => by rw [he]; exact h)
  intro b4 b5 b6
  refine ld1 4 rfl (v := .slice ba o.b.length bc) rfl ?_
  refine cvC (x := o.b) (fun w1 hs => copy_any _ o.b ho.b w1 ((hs.res (k := 2) rfl).1.rd)) (fun b10 c10 j10 hR => ?_)
  refine ld1 4 rfl (v := .int .i64 o.kind) rfl ?_
  refine cf (by rw [h5]; rfl) ?_
  refine cf (by rw [h5]; rfl) ?_
  refine cf (by rw [h5]; rfl) ?_
  refine cf (by rw [h5]; rfl) ?_
  refine ct (by rw [h5]; rfl) ?_
  refine ld1 4 rfl rfl ?_
  refine cTd 0 rfl (fun w1 hs => drop_any S o.name w1 (hs.res (k := 0) rfl) hD.st hD.lf) (fun S' hS' hg => ?_)
  refine ldN 3 rfl rfl ?_
  refine ld1 4 rfl rfl ?_
  refine cRf 1 rfl (fun w1 hs => rdrop_any M _ rr o.name hM.fl hM.st hM.lf w1 (hs.res (k := 1) rfl).1 (hs.res (k := 1) rfl).2) (fun fv' rr' hfv' hrr' => ?_)
  obtain ⟨a', n', c', rfl⟩ := hfv'
  refine sN 3 rfl rfl (rdC_one (rdropD M o.name).1 rfl) ?_ (by kernel_rfl)
  have hdo : doD S.D o = dropD S.D o.name := by unfold doD; simp [h5]
  have hmo : doM M o = rdropD M o.name := by unfold doM; simp [h5]
  have hsm : sameD S.D M o = true := if_pos (by simp [h5])
  iterate 3 refine ct rfl ?_
  refine ld1 4 rfl (v := .slice ba o.b.length bc) rfl ?_
  refine ct rfl ?_
  refine cvs (fun w1 hs => kept_yes ho.b rfl hR w1 (hs.nth (k := 6) rfl) (hs.res (k := 2) rfl).1.rd) ?_
  refine ct rfl ?_
  refine over_in 6 rfl hR ho.b ?_
  refine dr [dead, dead, dead, cl b4 (rdC ((rdropD M o.name).1) (.slice a' n' c')) TR] 99 (.t 0 (.t 1 (.t 2 (.t 3 (.t 4 (.n 5 (.t 6 (.t 7 (.t 8 .nil))))))))) tab_ok mixed_ok (by kernel_rfl) (.dead (.dead (.dead (.cons .nil)))) ?_
  refine ldN 3 rfl rfl ?_
  refine cz (num_any ((dropD S.D o.name).2)) ?_
  refine sN 5 rfl rfl (rdC_one ((rdropD M o.name).1) rfl) ?_ (by kernel_rfl)
  refine ⟨(.dead (.dead (.dead (.cons .nil)))), ?_⟩
  refine ldN 5 rfl rfl ?_
  exact ⟨fun w1 hs => DoR.end (M' := (rdropD M o.name).1) h hs 7 rfl rfl (by decide) (hg) (hrr') (hS'.trans (by rw [hdo])) (by rw [hmo]) (⟨_, _, _, rfl⟩) (by unfold doV; rw [hdo, hmo, hsm]; first | done | rfl)⟩
set_option maxRecDepth 100000 in
set_option maxHeartbeats 4000000 in
theorem do_7 (T : Two) (o : Opn) (h7 : o.kind = 7) (bv : Value) (rb : Nat → Prop) (w : World) (h : TwoP T w) (hD : Fits T.S.D) (hM : Fits T.M) (ho : OFits o) (hb : RdB rb w bv (Lib.byteCells o.b)) (hr : ∀ k, rb k → k < w.heap.size ∧ k ≠ T.S.bd ∧ k ≠ T.S.bm) :
    Calls Try.prog 15 ([ptr T.S.bd, .agg (rdC T.M T.fv), .agg #[.int .i64 o.kind, VS o.name, VS o.to, .int .i64 o.n, bv]] : List Value).toArray w (DoR T o w) := by
  obtain ⟨ba, bc, rfl⟩ := rdb_slice hb
  obtain ⟨S, M, fv, rr⟩ := T
  have hfvs : ∃ a n c, fv = .slice a n c := by obtain ⟨_, _, _, a, c, e, _⟩ := h.m; exact ⟨a, _, c, e⟩
  obtain ⟨fa, fn, fc, rfl⟩ := hfvs
  simp only at hD hM
  have st0 : St [bl S.bd, bl S.bm] w w [rs (dkR S), rs (mR rr (.slice fa fn fc) M.files), rs (oR rb (.slice ba o.b.length bc) o.b)] := two_start h hb hr
  show Calls Try.prog 15 ([ptr S.bd, .agg (rdC M (.slice fa fn fc)), .agg #[.int .i64 o.kind, VS o.name, VS o.to, .int .i64 o.n, .slice ba o.b.length bc]] : List Value).toArray w _
  refine (enter tab_ok Try.func15 rfl Try.ntmps15 rfl st0 (R := fun v w' => DoR ⟨S, M, .slice fa fn fc, rr⟩ o w (.returned v) w') ?_).mono (fun e w' ⟨v, he, h⟩ => by rw [he]; exact h)
  intro b4 b5 b6
  refine ld1 4 rfl (v := .slice ba o.b.length bc) rfl ?_
  refine cvC (x := o.b) (fun w1 hs => copy_any _ o.b ho.b w1 ((hs.res (k := 2) rfl).1.rd)) (fun b10 c10 j10 hR => ?_)
  refine ld1 4 rfl (v := .int .i64 o.kind) rfl ?_
  refine cf (by rw [h7]; rfl) ?_
  refine cf (by rw [h7]; rfl) ?_
  refine cf (by rw [h7]; rfl) ?_
  refine cf (by rw [h7]; rfl) ?_
  refine cf (by rw [h7]; rfl) ?_
  refine ct (by rw [h7]; rfl) ?_
  refine ld1 4 rfl rfl ?_
  refine cTd 0 rfl (fun w1 hs => arm_t S o.n w1 (hs.res (k := 0) rfl)) (fun S' hS' hg => ?_)
  refine ld1 4 rfl (v := .int .i64 o.n) rfl ?_
  have hdo : doD S.D o = armD S.D o.n := by unfold doD; simp [h7]
  have hmo : doM M o = armD M o.n := by unfold doM; simp [h7]
  have hsm : sameD S.D M o = true := if_pos (by simp [h7])
  by_cases hn : o.n < 0
  · refine ct (decide_eq_true hn) ?_
    have hma : armD M o.n = (M, 2) := if_pos hn
    iterate 3 refine ct rfl ?_
    refine ld1 4 rfl (v := .slice ba o.b.length bc) rfl ?_
    refine ct rfl ?_
    refine cvs (fun w1 hs => kept_yes ho.b rfl hR w1 (hs.nth (k := 6) rfl) (hs.res (k := 2) rfl).1.rd) ?_
    refine ct rfl ?_
    refine over_in 6 rfl hR ho.b ?_
    refine dr [dead, dead, dead, cl b4 (rdC (M) (.slice fa fn fc)) TR] 99 (.t 0 (.t 1 (.t 2 (.t 3 (.t 4 (.n 5 (.t 6 (.t 7 (.t 8 .nil))))))))) tab_ok mixed_ok (by kernel_rfl) (.dead (.dead (.dead (.cons .nil)))) ?_
    refine ldN 3 rfl rfl ?_
    refine cz (num_any ((armD S.D o.n).2)) ?_
    refine sN 5 rfl rfl (rdC_one (M) rfl) ?_ (by kernel_rfl)
    refine ⟨(.dead (.dead (.dead (.cons .nil)))), ?_⟩
    refine ldN 5 rfl rfl ?_
    exact ⟨fun w1 hs => DoR.end (M' := M) h hs 1 rfl rfl (by decide) (hg) (fun _ h => .inl h) (hS'.trans (by rw [hdo])) (by rw [hmo, hma]) (⟨_, _, _, rfl⟩) (by unfold doV; rw [hdo, hmo, hsm, hma]; first | done | rfl)⟩
  · refine cf (decide_eq_false hn) ?_
    obtain ⟨n, hn'⟩ : ∃ n : Nat, o.n = n := ⟨o.n.toNat, by omega⟩
    have hma : armD M o.n = ({ M with armed := true, left := n }, 0) := by rw [hn']; exact if_neg (by omega)
    refine dr [dead, dead, dead, dead, cl b5 #[.int .i64 o.kind, VS o.name, VS o.to, .int .i64 o.n, .slice ba o.b.length bc] 33] 99 (.t 0 (.t 1 (.t 2 (.n 3 (.t 4 (.n 5 .nil)))))) tab_ok mixed_ok (by kernel_rfl) (.dead (.dead (.dead (.dead (.cons .nil))))) ?_
    refine ld1 4 rfl (v := .int .i64 o.n) rfl ?_
    rw [hn']
    refine s1 3 rfl (show 3 < 6 by decide) ?_
    refine ⟨(.dead (.dead (.dead (.dead (.cons .nil))))), ?_⟩
    refine s1 3 rfl (show 2 < 6 by decide) ?_
    refine ⟨(.dead (.dead (.dead (.dead (.cons .nil))))), ?_⟩
    iterate 3 refine ct rfl ?_
    refine ld1 4 rfl (v := .slice ba o.b.length bc) rfl ?_
    refine ct rfl ?_
    refine cvs (fun w1 hs => kept_yes ho.b rfl hR w1 (hs.nth (k := 6) rfl) (hs.res (k := 2) rfl).1.rd) ?_
    refine ct rfl ?_
    refine over_in 6 rfl hR ho.b ?_
    refine dr [dead, dead, dead, cl b4 (rdC ({ M with armed := true, left := n }) (.slice fa fn fc)) TR] 99 (.t 0 (.t 1 (.t 2 (.t 3 (.t 4 (.n 5 (.t 6 (.t 7 (.t 8 .nil))))))))) tab_ok mixed_ok (by kernel_rfl) (.dead (.dead (.dead (.cons .nil)))) ?_
    refine ldN 3 rfl rfl ?_
    refine cz (num_any ((armD S.D (n : Nat)).2)) ?_
    refine sN 5 rfl rfl (rdC_one ({ M with armed := true, left := n }) rfl) ?_ (by kernel_rfl)
    refine ⟨(.dead (.dead (.dead (.cons .nil)))), ?_⟩
    refine ldN 5 rfl rfl ?_
    exact ⟨fun w1 hs => DoR.end (M' := { M with armed := true, left := n }) h hs 1 rfl rfl (by decide) (hg) (fun _ h => .inl h) (hS'.trans (by rw [hdo])) (by rw [hmo, hma]) (⟨_, _, _, rfl⟩) (by unfold doV; rw [hdo, hmo, hsm, hma, hn']; first | done | rfl)⟩
end Go.Proofs.Ytdgkaboaapfnmaa
