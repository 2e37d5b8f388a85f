/- The law's do: the walk. -/
import Derived.Test.YtdgkaboaapfnmaaDoA
namespace Go.Proofs.Ytdgkaboaapfnmaa
open Go.RowKit Go.Sx
set_option linter.unusedVariables false

/-- a disk that is not too large -/
structure Fits (D : Dk) : Prop where
  st : D.steps ≤ 1000000
  lf : D.left ≤ 9223372036854775807
  us : usedD D.files ≤ 1000000
  qt : D.quota ≤ 16777216
  fl : D.files.length ≤ 1000000
  sz : ∀ f ∈ D.files, f.sure ≤ f.bs.length ∧ f.bs.length ≤ 16777216
structure OFits (o : Opn) : Prop where
  nm : o.name.length ≤ 1000000
  to : o.to.length ≤ 1000000
  b : o.b.length ≤ 1000000
  n : -9223372036854775808 ≤ o.n ∧ o.n ≤ 9223372036854775807
def sameD (D M : Dk) (o : Opn) : Bool := if o.kind = 1 ∨ o.kind = 2 ∨ o.kind = 3 ∨ o.kind = 4 ∨ o.kind = 5 ∨ o.kind = 7 ∨ o.kind = 8 then true else decide ((readD D o.name).1 = (readD M o.name).1)
def doV (T T' : Two) (o : Opn) : Value := .tuple #[.agg (rdC T'.M T'.fv), .int .i64 (doD T.S.D o).2, .int .i64 (doM T.M o).2, .bool (sameD T.S.D T.M o)]
structure DoP (T : Two) (o : Opn) (T' : Two) : Prop where
  d : T'.S.D = (doD T.S.D o).1
  bd : T'.S.bd = T.S.bd
  bm : T'.S.bm = T.S.bm
  m : T'.M = (doM T.M o).1
  fv : ∃ a n c, T'.fv = .slice a n c
def DoR (T : Two) (o : Opn) (w : World) (e : Ending) (w' : World) : Prop := ∃ T' : Two, DoP T o T' ∧ e = .returned (doV T T' o) ∧ Turns w w' (twoR T) (twoR T')
theorem DoR.end {S S' : DkS} {M M' : Dk} {fv fv' : Value} {rr rr' : Nat → Prop} {o : Opn} {w w1 : World} {L : List Ent} (h : TwoP ⟨S, M, fv, rr⟩ w) (hs : St [bl S.bd, bl S.bm] w w1 L) (k : Nat) (h0 : L[0]? = some (rs (dkR S'))) (hk : L[k]? = some (rs (mR rr' fv' M'.files))) (hk0 : k ≠ 0) (hg : DkGo w S S') (hr : ∀ j, rr' j → rr j ∨ w.heap.size ≤ j)
    (hD : S'.D = (doD S.D o).1) (hM : M' = (doM M o).1) (hfv : ∃ a n c, fv' = .slice a n c) {v : Value} (hv : v = doV ⟨S, M, fv, rr⟩ ⟨S', M', fv', rr'⟩ o) : DoR ⟨S, M, fv, rr⟩ o w (.returned v) w1 :=
  ⟨⟨S', M', fv', rr'⟩, ⟨hD, hg.bd, hg.bm, hM, hfv⟩, by rw [hv], two_end h hs h0 hk hk0 hg hr⟩
theorem apart6 {M : Bks} {w w1 : World} {L : List Ent} {S : DkS} {k : Nat} {r : Sx.Own} {l : List UInt8} (hs : St M w w1 L) (h0 : L[0]? = some (rs (dkR S))) (hk : L[k + 1]? = some (se r (Lib.byteCells l) 5)) {j : Nat} (hj : rowB r j) : ¬ InM [bl S.bd, bl S.bm] j := by
  have h1 : (se r (Lib.byteCells l) 5).A j := by
    obtain ⟨b, c, j', rfl, rfl⟩ := hj; simp [se]
  have := (pw_ne hs.apart h0 hk (by omega) j).1
  intro h2
  simp only [inM_cons, inM_nil, or_false, bl] at h2
  exact this ((rsW _ _).2 h2) h1
theorem arm_t (S : DkS) (n : Int) (w : World) (h : DkP S w) : Calls Try.prog 12 ([ptr S.bd, .int .i64 n] : List Value).toArray w (TurnR S w (armD S.D n).1 (armD S.D n).2) := by
  by_cases hn : n < 0
  · have e1 : armD S.D n = (S.D, 2) := if_pos hn
    rw [e1]
    exact (arm_bad S n hn w h).mono fun e w' ⟨he, hb⟩ => ⟨S, rfl, rfl, rfl, by rw [he]; rfl, Turns.of_below (r := dkR S) h hb⟩
  · obtain ⟨k, rfl⟩ : ∃ k : Nat, n = k := ⟨n.toNat, by omega⟩
    have e1 : armD S.D k = ({ S.D with armed := true, left := k }, 0) := if_neg hn
    rw [e1]
    exact (arm_any S k w h).mono fun e w' ⟨he, ht⟩ => ⟨S.withD _, rfl, rfl, rfl, by rw [he]; rfl, ht⟩
theorem readD_len {D : Dk} (h : Fits D) (n : List UInt8) : (readD D n).1.length ≤ 1000000 := by
  unfold readD
  split
  · simp
  · cases hf : findF n D.files with
    | none => simp
    | some f =>
      refine Nat.le_trans ?_ h.us
      unfold usedD
      exact le_sum (List.mem_map_of_mem (f := fun f : Fe => f.bs.length) (findF_mem hf).1)
set_option maxRecDepth 100000 in
set_option maxHeartbeats 4000000 in
theorem do_2 (T : Two) (o : Opn) (h2 : o.kind = 2) (bv : Value) (rb : Nat → Prop) (w : World) (h : TwoP T w) (hD : Fits T.S.D) (hM : Fits T.M) (ho : OFits o) (hb : RdB rb w bv (Lib.byteCells o.b)) (hr : ∀ k, rb k → k < w.heap.size ∧ k ≠ T.S.bd ∧ k ≠ T.S.bm) :
    Calls Try.prog 15 ([ptr T.S.bd, .agg (rdC T.M T.fv), .agg #[.int .i64 o.kind, VS o.name, VS o.to, .int .i64 o.n, bv]] : List Value).toArray w (DoR T o w) := by
  obtain ⟨ba, bc, rfl⟩ := rdb_slice hb
  obtain ⟨S, M, fv, rr⟩ := T
  have hfvs : ∃ a n c, fv = .slice a n c := by obtain ⟨_, _, _, a, c, e, _⟩ := h.m; exact ⟨a, _, c, e⟩
  obtain ⟨fa, fn, fc, rfl⟩ := hfvs
  simp only at hD hM
  have st0 : St [bl S.bd, bl S.bm] w w [rs (dkR S), rs (mR rr (.slice fa fn fc) M.files), rs (oR rb (.slice ba o.b.length bc) o.b)] := two_start h hb hr
  show Calls Try.prog 15 ([ptr S.bd, .agg (rdC M (.slice fa fn fc)), .agg #[.int .i64 o.kind, VS o.name, VS o.to, .int .i64 o.n, .slice ba o.b.length bc]] : List Value).toArray w _
  refine (enter tab_ok Try.func15 rfl Try.ntmps15 rfl st0 (R := fun v w' => DoR ⟨S, M, .slice fa fn fc, rr⟩ o w (.returned v) w') ?_).mono (fun e w' ⟨v, he, h⟩ => by rw [he]; exact h)
  intro b4 b5 b6
  refine ld1 4 rfl (v := .slice ba o.b.length bc) rfl ?_
  refine cvC (x := o.b) (fun w1 hs => copy_any _ o.b ho.b w1 ((hs.res (k := 2) rfl).1.rd)) (fun b10 c10 j10 hR => ?_)
  refine ld1 4 rfl (v := .int .i64 o.kind) rfl ?_
  refine cf (by rw [h2]; rfl) ?_
  refine ct (by rw [h2]; rfl) ?_
  refine ld1 4 rfl rfl ?_
  refine cTd 0 rfl (fun w1 hs => sync_any S o.name w1 (hs.res (k := 0) rfl) hD.st hD.lf) (fun S' hS' hg => ?_)
  refine ldN 3 rfl rfl ?_
  refine ld1 4 rfl rfl ?_
  refine cRf 1 rfl (fun w1 hs => rsync_any M _ rr o.name hM.fl hM.st hM.lf w1 (hs.res (k := 1) rfl).1 (hs.res (k := 1) rfl).2) (fun fv' rr' hfv' hrr' => ?_)
  obtain ⟨a', n', c', rfl⟩ := hfv'
  refine sN 3 rfl rfl (rdC_one (rsyncD M o.name).1 rfl) ?_ (by kernel_rfl)
  have hdo : doD S.D o = syncD S.D o.name := by unfold doD; simp [h2]
  have hmo : doM M o = rsyncD M o.name := by unfold doM; simp [h2]
  have hsm : sameD S.D M o = true := if_pos (by simp [h2])
  iterate 3 refine ct rfl ?_
  refine ld1 4 rfl (v := .slice ba o.b.length bc) rfl ?_
  refine ct rfl ?_
  refine cvs (fun w1 hs => kept_yes ho.b rfl hR w1 (hs.nth (k := 6) rfl) (hs.res (k := 2) rfl).1.rd) ?_
  refine ct rfl ?_
  refine over_in 6 rfl hR ho.b ?_
  refine dr [dead, dead, dead, cl b4 (rdC ((rsyncD M o.name).1) (.slice a' n' c')) TR] 99 (.t 0 (.t 1 (.t 2 (.t 3 (.t 4 (.n 5 (.t 6 (.t 7 (.t 8 .nil))))))))) tab_ok mixed_ok (by kernel_rfl) (.dead (.dead (.dead (.cons .nil)))) ?_
  refine ldN 3 rfl rfl ?_
  refine cz (num_any ((syncD S.D o.name).2)) ?_
  refine sN 5 rfl rfl (rdC_one ((rsyncD M o.name).1) rfl) ?_ (by kernel_rfl)
  refine ⟨(.dead (.dead (.dead (.cons .nil)))), ?_⟩
  refine ldN 5 rfl rfl ?_
  exact ⟨fun w1 hs => DoR.end (M' := (rsyncD M o.name).1) h hs 7 rfl rfl (by decide) (hg) (hrr') (hS'.trans (by rw [hdo])) (by rw [hmo]) (⟨_, _, _, rfl⟩) (by unfold doV; rw [hdo, hmo, hsm]; first | done | rfl)⟩
set_option maxRecDepth 100000 in
set_option maxHeartbeats 4000000 in
theorem do_1 (T : Two) (o : Opn) (h1 : o.kind = 1) (bv : Value) (rb : Nat → Prop) (w : World) (h : TwoP T w) (hD : Fits T.S.D) (hM : Fits T.M) (ho : OFits o) (hb : RdB rb w bv (Lib.byteCells o.b)) (hr : ∀ k, rb k → k < w.heap.size ∧ k ≠ T.S.bd ∧ k ≠ T.S.bm) :
    Calls Try.prog 15 ([ptr T.S.bd, .agg (rdC T.M T.fv), .agg #[.int .i64 o.kind, VS o.name, VS o.to, .int .i64 o.n, bv]] : List Value).toArray w (DoR T o w) := by
  obtain ⟨ba, bc, rfl⟩ := rdb_slice hb
  obtain ⟨S, M, fv, rr⟩ := T
  have hfvs : ∃ a n c, fv = .slice a n c := by obtain ⟨_, _, _, a, c, e, _⟩ := h.m; exact ⟨a, _, c, e⟩
  obtain ⟨fa, fn, fc, rfl⟩ := hfvs
  simp only at hD hM
  have st0 : St [bl S.bd, bl S.bm] w w [rs (dkR S), rs (mR rr (.slice fa fn fc) M.files), rs (oR rb (.slice ba o.b.length bc) o.b)] := two_start h hb hr
  show Calls Try.prog 15 ([ptr S.bd, .agg (rdC M (.slice fa fn fc)), .agg #[.int .i64 o.kind, VS o.name, VS o.to, .int .i64 o.n, .slice ba o.b.length bc]] : List Value).toArray w _
  refine (enter tab_ok Try.func15 rfl Try.ntmps15 rfl st0 (R := fun v w' => DoR ⟨S, M, .slice fa fn fc, rr⟩ o w (.returned v) w') ?_).mono (fun e w' ⟨v, he, h⟩ => by rw [he]; exact h)
  intro b4 b5 b6
  refine ld1 4 rfl (v := .slice ba o.b.length bc) rfl ?_
  refine cvC (x := o.b) (fun w1 hs => copy_any _ o.b ho.b w1 ((hs.res (k := 2) rfl).1.rd)) (fun b10 c10 j10 hR => ?_)
  refine ld1 4 rfl (v := .int .i64 o.kind) rfl ?_
  refine ct (by rw [h1]; rfl) ?_
  refine ld1 4 rfl rfl ?_
  refine cTd 0 rfl (fun w1 hs => append_any S o.name o.b ho.nm ho.b _ w1 (hs.res (k := 0) rfl) (Rd.own hs 6 rfl hR) (fun w' _ hw' => by
      refine ((RdR.own hs 6 rfl hR).same fun j hj => hw' j ?_ ?_).rd
      · obtain ⟨b, c, j', e, rfl⟩ := hj
        obtain ⟨rfl, _⟩ := Prod.mk.inj (Option.some.inj e)
        exact hs.lt (List.mem_of_getElem? (i := 6) rfl) rfl
      · exact apart6 (k := 5) hs rfl rfl hj) hD.st hD.lf (Nat.le_trans hD.us (by decide)) hD.qt) (fun S' hS' hg => ?_)
  refine ldN 3 rfl rfl ?_
  refine ld1 4 rfl rfl ?_
  refine ld1 4 rfl (v := .slice ba o.b.length bc) rfl ?_
  refine cRf 1 rfl (fun w1 hs => rappend_any M _ rr o.name o.b _ ho.nm ho.b hM.fl (fun f hf => (hM.sz f hf).2) (Nat.le_trans hM.us (by decide)) hM.qt hM.st hM.lf w1 (hs.res (k := 1) rfl).1 (hs.res (k := 1) rfl).2 (hs.res (k := 2) rfl).1.rd) (fun fv' rr' hfv' hrr' => ?_)
  obtain ⟨a', n', c', rfl⟩ := hfv'
  refine sN 3 rfl rfl (rdC_one (rappendD M o.name o.b).1 rfl) ?_ (by kernel_rfl)
  have hdo : doD S.D o = appendD S.D o.name o.b := by unfold doD; simp [h1]
  have hmo : doM M o = rappendD M o.name o.b := by unfold doM; simp [h1]
  have hsm : sameD S.D M o = true := if_pos (by simp [h1])
  iterate 3 refine ct rfl ?_
  refine ld1 4 rfl (v := .slice ba o.b.length bc) rfl ?_
  refine ct rfl ?_
  refine cvs (fun w1 hs => kept_yes ho.b rfl hR w1 (hs.nth (k := 6) rfl) (hs.res (k := 2) rfl).1.rd) ?_
  refine ct rfl ?_
  refine over_in 6 rfl hR ho.b ?_
  refine dr [dead, dead, dead, cl b4 (rdC ((rappendD M o.name o.b).1) (.slice a' n' c')) TR] 99 (.t 0 (.t 1 (.t 2 (.t 3 (.t 4 (.n 5 (.t 6 (.t 7 (.t 8 .nil))))))))) tab_ok mixed_ok (by kernel_rfl) (.dead (.dead (.dead (.cons .nil)))) ?_
  refine ldN 3 rfl rfl ?_
  refine cz (num_any ((appendD S.D o.name o.b).2)) ?_
  refine sN 5 rfl rfl (rdC_one ((rappendD M o.name o.b).1) rfl) ?_ (by kernel_rfl)
  refine ⟨(.dead (.dead (.dead (.cons .nil)))), ?_⟩
  refine ldN 5 rfl rfl ?_
  exact ⟨fun w1 hs => DoR.end (M' := (rappendD M o.name o.b).1) h hs 7 rfl rfl (by decide) (hg) (hrr') (hS'.trans (by rw [hdo])) (by rw [hmo]) (⟨_, _, _, rfl⟩) (by unfold doV; rw [hdo, hmo, hsm]; first | done | rfl)⟩
end Go.Proofs.Ytdgkaboaapfnmaa
