/- The law's do: the walk: more kinds. -/
import Derived.Test.YtdgkaboaapfnmaaDoC
import Derived.Test.YtdgkaboaapfnmaaDoD
namespace Go.Proofs.Ytdgkaboaapfnmaa
open Go.RowKit Go.Sx
set_option linter.unusedVariables false

set_option maxRecDepth 100000 in
set_option maxHeartbeats 4000000 in
theorem do_8 (T : Two) (o : Opn) (h8 : o.kind = 8) (bv : Value) (rb : Nat → Prop) (w : World) (h : TwoP T w) (hD : Fits T.S.D) (hM : Fits T.M) (ho : OFits o) (hb : RdB rb w bv (Lib.byteCells o.b)) (hr : ∀ k, rb k → k < w.heap.size ∧ k ≠ T.S.bd ∧ k ≠ T.S.bm) :
    Calls Try.prog 15 ([ptr T.S.bd, .agg (rdC T.M T.fv), .agg #[.int .i64 o.kind, VS o.name, VS o.to, .int .i64 o.n, bv]] : List Value).toArray w (DoR T o w) := by
  obtain ⟨ba, bc, rfl⟩ := rdb_slice hb
  obtain ⟨S, M, fv, rr⟩ := T
  have hfvs : ∃ a n c, fv = .slice a n c := by obtain ⟨_, _, _, a, c, e, _⟩ := h.m; exact ⟨a, _, c, e⟩
  obtain ⟨fa, fn, fc, rfl⟩ := hfvs
  simp only at hD hM
  have st0 : St [bl S.bd, bl S.bm] w w [rs (dkR S), rs (mR rr (.slice fa fn fc) M.files), rs (oR rb (.slice ba o.b.length bc) o.b)] := two_start h hb hr
  show Calls Try.prog 15 ([ptr S.bd, .agg (rdC M (.slice fa fn fc)), .agg #[.int .i64 o.kind, VS o.name, VS o.to, .int .i64 o.n, .slice ba o.b.length bc]] : List Value).toArray w _
  refine (enter tab_ok Try.func15 rfl Try.ntmps15 rfl st0 (R := fun v w' => DoR ⟨S, M, .slice fa fn fc, rr⟩ o w (.returned v) w') ?_).mono (fun e w' ⟨v, he, h⟩ => by rw [he]; exact h)
  intro b4 b5 b6
  refine ld1 4 rfl (v := .slice ba o.b.length bc) rfl ?_
  refine cvC (x := o.b) (fun w1 hs => copy_any _ o.b ho.b w1 ((hs.res (k := 2) rfl).1.rd)) (fun b10 c10 j10 hR => ?_)
  refine ld1 4 rfl (v := .int .i64 o.kind) rfl ?_
  refine cf (by rw [h8]; rfl) ?_
  refine cf (by rw [h8]; rfl) ?_
  refine cf (by rw [h8]; rfl) ?_
  refine cf (by rw [h8]; rfl) ?_
  refine cf (by rw [h8]; rfl) ?_
  refine cf (by rw [h8]; rfl) ?_
  refine ct (by rw [h8]; rfl) ?_
  refine ld1 4 rfl rfl ?_
  refine cT (α := DkS) (Φ := fun S' => S'.D = crashD S.D o.n ∧ DkGo w S S') (v := fun _ => .tuple #[]) (r' := dkR) 0 rfl (fun w1 hs => (crash_any S o.n ho.n w1 (hs.res (k := 0) rfl)).mono fun e w' ⟨S', ⟨h1, h2, h3⟩, he, ht⟩ => ⟨S', ⟨h1, .of hs.size h2 h3 ht⟩, he, ht⟩) (fun S' ⟨hS', hg⟩ => ?_)
  refine ldN 3 rfl rfl ?_
  refine ld1 4 rfl rfl ?_
  refine cM (α := Value × (Nat → Prop)) (Φ := fun x => (∃ a n c, x.1 = .slice a n c) ∧ ∀ j, x.2 j → w.heap.size ≤ j) (v := fun x => .agg (rdC (crashD M o.n) x.1)) (r' := fun x => mR x.2 x.1 (crashD M o.n).files) (fun w1 hs => (rcrash_any M _ rr o.n ho.n.2 hM.fl (fun f hf => ⟨(hM.sz f hf).1, (hM.sz f hf).2⟩) w1 (hs.res (k := 1) rfl).1 (hs.res (k := 1) rfl).2).mono fun e w' ⟨fv', rr', he, hb, hf, hr⟩ => ⟨(fv', fun k => rr' k ∧ k < w'.heap.size), ⟨by obtain ⟨_, _, _, a, c, e, _⟩ := hf; exact ⟨a, _, c, e⟩, fun j hj => Nat.le_trans hs.size (hr j hj.1)⟩, he, hb, ⟨hf.has, fun j hj => hj.2⟩, (fun k hk => hk.elim), fun k hk => .inl (hr k hk.1)⟩) (fun x hx => ?_)
  obtain ⟨fv', rr'⟩ := x
  obtain ⟨⟨a', n', c', hfv'⟩, hrr'⟩ := hx
  simp only at hfv' hrr'
  subst hfv'
  refine sN 3 rfl rfl (rdC_one (crashD M o.n) rfl) ?_ (by kernel_rfl)
  have hdo : doD S.D o = (crashD S.D o.n, 0) := by unfold doD; simp [h8]
  have hmo : doM M o = (crashD M o.n, 0) := by unfold doM; simp [h8]
  have hsm : sameD S.D M o = true := if_pos (by simp [h8])
  iterate 3 refine ct rfl ?_
  refine ld1 4 rfl (v := .slice ba o.b.length bc) rfl ?_
  refine ct rfl ?_
  refine cvs (fun w1 hs => kept_yes ho.b rfl hR w1 (hs.nth (k := 6) rfl) (hs.res (k := 2) rfl).1.rd) ?_
  refine ct rfl ?_
  refine over_in 6 rfl hR ho.b ?_
  refine dr [dead, dead, dead, cl b4 (rdC (crashD M o.n) (.slice a' n' c')) TR] 99 (.t 0 (.t 1 (.t 2 (.t 3 (.t 4 (.n 5 (.t 6 (.t 7 (.t 8 .nil))))))))) tab_ok mixed_ok (by kernel_rfl) (.dead (.dead (.dead (.cons .nil)))) ?_
  refine ldN 3 rfl rfl ?_
  refine cz (num_any (0)) ?_
  refine sN 5 rfl rfl (rdC_one (crashD M o.n) rfl) ?_ (by kernel_rfl)
  refine ⟨(.dead (.dead (.dead (.cons .nil)))), ?_⟩
  refine ldN 5 rfl rfl ?_
  exact ⟨fun w1 hs => DoR.end (M' := crashD M o.n) h hs 7 rfl rfl (by decide) (hg) ((fun j hj => .inr (hrr' j hj))) (hS'.trans (by rw [hdo])) (by rw [hmo]) (⟨_, _, _, rfl⟩) (by unfold doV; rw [hdo, hmo, hsm]; first | done | rfl)⟩
set_option maxRecDepth 100000 in
set_option maxHeartbeats 4000000 in
theorem do_0 (T : Two) (o : Opn) (h1 : o.kind ≠ 1) (h2 : o.kind ≠ 2) (h3 : o.kind ≠ 3) (h4 : o.kind ≠ 4) (h5 : o.kind ≠ 5) (h7 : o.kind ≠ 7) (h8 : o.kind ≠ 8) (bv : Value) (rb : Nat → Prop) (w : World) (h : TwoP T w) (hD : Fits T.S.D) (hM : Fits T.M) (ho : OFits o) (hb : RdB rb w bv (Lib.byteCells o.b)) (hr : ∀ k, rb k → k < w.heap.size ∧ k ≠ T.S.bd ∧ k ≠ T.S.bm) :
    Calls Try.prog 15 ([ptr T.S.bd, .agg (rdC T.M T.fv), .agg #[.int .i64 o.kind, VS o.name, VS o.to, .int .i64 o.n, bv]] : List Value).toArray w (DoR T o w) := by
  obtain ⟨ba, bc, rfl⟩ := rdb_slice hb
  obtain ⟨S, M, fv, rr⟩ := T
  have hfvs : ∃ a n c, fv = .slice a n c := by obtain ⟨_, _, _, a, c, e, _⟩ := h.m; exact ⟨a, _, c, e⟩
  obtain ⟨fa, fn, fc, rfl⟩ := hfvs
  simp only at hD hM
  have st0 : St [bl S.bd, bl S.bm] w w [rs (dkR S), rs (mR rr (.slice fa fn fc) M.files), rs (oR rb (.slice ba o.b.length bc) o.b)] := two_start h hb hr
  show Calls Try.prog 15 ([ptr S.bd, .agg (rdC M (.slice fa fn fc)), .agg #[.int .i64 o.kind, VS o.name, VS o.to, .int .i64 o.n, .slice ba o.b.length bc]] : List Value).toArray w _
  refine (enter tab_ok Try.func15 rfl Try.ntmps15 rfl st0 (R := fun v w' => DoR ⟨S, M, .slice fa fn fc, rr⟩ o w (.returned v) w') ?_).mono (fun e w' ⟨v, he, h⟩ => by rw [he]; exact h)
  intro b4 b5 b6
  refine ld1 4 rfl (v := .slice ba o.b.length bc) rfl ?_
  refine cvC (x := o.b) (fun w1 hs => copy_any _ o.b ho.b w1 ((hs.res (k := 2) rfl).1.rd)) (fun b10 c10 j10 hR => ?_)
  refine ld1 4 rfl (v := .int .i64 o.kind) rfl ?_
  refine cf (beq_eq_false_iff_ne.2 h1) ?_
  refine cf (beq_eq_false_iff_ne.2 h2) ?_
  refine cf (beq_eq_false_iff_ne.2 h3) ?_
  refine cf (beq_eq_false_iff_ne.2 h4) ?_
  refine cf (beq_eq_false_iff_ne.2 h5) ?_
  refine cf (beq_eq_false_iff_ne.2 h7) ?_
  refine cf (beq_eq_false_iff_ne.2 h8) ?_
  refine ld1 4 rfl rfl ?_
  refine coV (fun v => .tuple #[v, errV (readD S.D o.name).2]) (fun w1 hs => read_any S o.name w1 (hs.res (k := 0) rfl)) (fun r1 hR1 => ?_)
  refine ldN 3 rfl rfl ?_
  refine ld1 4 rfl rfl ?_
  refine coV (fun v => .tuple #[v, .int .i64 (readD M o.name).2]) (fun w1 hs => rread_any M _ rr o.name hM.fl (fun f hf => (hM.sz f hf).2) w1 (hs.res (k := 1) rfl).1 (hs.res (k := 1) rfl).2) (fun r2 hR2 => ?_)
  have hdo : doD S.D o = (S.D, (readD S.D o.name).2) := by unfold doD; simp [h1, h2, h3, h4, h5, h7, h8]
  have hmo : doM M o = (M, (readD M o.name).2) := by unfold doM; simp [h1, h2, h3, h4, h5, h7, h8]
  by_cases hs0 : (readD S.D o.name).1 = (readD M o.name).1
  · have hsm : sameD S.D M o = true := (if_neg (by simp [h1, h2, h3, h4, h5, h7, h8])).trans (decide_eq_true hs0)
    refine cvs (fun w1 hs => by have := same_any _ _ _ _ w1 (Rd.own hs 7 rfl hR1) (Rd.own hs 8 rfl hR2); rwa [decide_eq_true hs0] at this) ?_
    refine over_in 7 rfl hR1 (readD_len hD o.name) ?_
    iterate 3 refine ct rfl ?_
    refine ld1 4 rfl (v := .slice ba o.b.length bc) rfl ?_
    refine ct rfl ?_
    refine cvs (fun w1 hs => kept_yes ho.b rfl hR w1 (hs.nth (k := 6) rfl) (hs.res (k := 2) rfl).1.rd) ?_
    refine ct rfl ?_
    refine over_in 6 rfl hR ho.b ?_
    refine dr [dead, dead, dead, cl b4 (rdC (M) (.slice fa fn fc)) TR] 99 (.t 0 (.t 1 (.t 2 (.t 3 (.t 4 (.n 5 (.t 6 (.t 7 (.t 8 .nil))))))))) tab_ok mixed_ok (by kernel_rfl) (.dead (.dead (.dead (.cons .nil)))) ?_
    refine ldN 3 rfl rfl ?_
    refine cz (num_any ((readD S.D o.name).2)) ?_
    refine sN 5 rfl rfl (rdC_one (M) rfl) ?_ (by kernel_rfl)
    refine ⟨(.dead (.dead (.dead (.cons .nil)))), ?_⟩
    refine ldN 5 rfl rfl ?_
    exact ⟨fun w1 hs => DoR.end (M' := M) h hs 1 rfl rfl (by decide) (DkGo.refl _ _) (fun _ h => .inl h) (by rw [hdo]) (by rw [hmo]) (⟨_, _, _, rfl⟩) (by unfold doV; rw [hdo, hmo, hsm]; first | done | rfl)⟩
  · have hsm : sameD S.D M o = false := (if_neg (by simp [h1, h2, h3, h4, h5, h7, h8])).trans (decide_eq_false hs0)
    refine cvs (fun w1 hs => by have := same_any _ _ _ _ w1 (Rd.own hs 7 rfl hR1) (Rd.own hs 8 rfl hR2); rwa [decide_eq_false hs0] at this) ?_
    refine over_in 7 rfl hR1 (readD_len hD o.name) ?_
    iterate 4 refine cf rfl ?_
    refine cf rfl ?_
    refine over_in 6 rfl hR ho.b ?_
    refine dr [dead, dead, dead, cl b4 (rdC (M) (.slice fa fn fc)) TR] 99 (.t 0 (.t 1 (.t 2 (.t 3 (.t 4 (.n 5 (.t 6 (.t 7 (.t 8 .nil))))))))) tab_ok mixed_ok (by kernel_rfl) (.dead (.dead (.dead (.cons .nil)))) ?_
    refine ldN 3 rfl rfl ?_
    refine cz (num_any ((readD S.D o.name).2)) ?_
    refine sN 5 rfl rfl (rdC_one (M) rfl) ?_ (by kernel_rfl)
    refine ⟨(.dead (.dead (.dead (.cons .nil)))), ?_⟩
    refine ldN 5 rfl rfl ?_
    exact ⟨fun w1 hs => DoR.end (M' := M) h hs 1 rfl rfl (by decide) (DkGo.refl _ _) (fun _ h => .inl h) (by rw [hdo]) (by rw [hmo]) (⟨_, _, _, rfl⟩) (by unfold doV; rw [hdo, hmo, hsm]; first | done | rfl)⟩
theorem do_any (T : Two) (o : Opn) (bv : Value) (rb : Nat → Prop) (w : World) (h : TwoP T w) (hD : Fits T.S.D) (hM : Fits T.M) (ho : OFits o) (hb : RdB rb w bv (Lib.byteCells o.b)) (hr : ∀ k, rb k → k < w.heap.size ∧ k ≠ T.S.bd ∧ k ≠ T.S.bm) :
    Calls Try.prog 15 ([ptr T.S.bd, .agg (rdC T.M T.fv), .agg #[.int .i64 o.kind, VS o.name, VS o.to, .int .i64 o.n, bv]] : List Value).toArray w (DoR T o w) := by
  by_cases h1 : o.kind = 1
  · exact do_1 T o h1 bv rb w h hD hM ho hb hr
  by_cases h2 : o.kind = 2
  · exact do_2 T o h2 bv rb w h hD hM ho hb hr
  by_cases h3 : o.kind = 3
  · exact do_3 T o h3 bv rb w h hD hM ho hb hr
  by_cases h4 : o.kind = 4
  · exact do_4 T o h4 bv rb w h hD hM ho hb hr
  by_cases h5 : o.kind = 5
  · exact do_5 T o h5 bv rb w h hD hM ho hb hr
  by_cases h7 : o.kind = 7
  · exact do_7 T o h7 bv rb w h hD hM ho hb hr
  by_cases h8 : o.kind = 8
  · exact do_8 T o h8 bv rb w h hD hM ho hb hr
  exact do_0 T o h1 h2 h3 h4 h5 h7 h8 bv rb w h hD hM ho hb hr
end Go.Proofs.Ytdgkaboaapfnmaa
