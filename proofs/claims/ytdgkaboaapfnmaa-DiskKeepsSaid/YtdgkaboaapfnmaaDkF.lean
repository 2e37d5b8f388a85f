/- The disk: Append. -/
import Derived.Test.YtdgkaboaapfnmaaDkE
namespace Go.Proofs.Ytdgkaboaapfnmaa
open Go.RowKit Go.Sx
set_option linter.unusedVariables false

/-- as it lay, nothing of it has turned -/
theorem dk_now {S : DkS} {w w' : World} {L : List Ent} (h : DkP S w) (hs : St [bl S.bd, bl S.bm] w w' L) (h0 : L[0]? = some (cl S.bd (dkC S.D S.bm) TD)) (h1 : L[1]? = some (me S.bm keS S.es S.clk)) : DkP S w' := by
  have hr : ∀ k, S.rr k → w'.heap[k]? = w.heap[k]? := fun k hk => hs.old k (h.r k hk).1 (by simp [bl]; exact (h.r k hk).2)
  exact ⟨hs.nth h0, hs.nth h1, h.f.same hr, h.ne, fun k hk => ⟨Nat.lt_of_lt_of_le (h.r k hk).1 hs.size, (h.r k hk).2⟩⟩
theorem dk_old {S : DkS} {w w' : World} {L : List Ent} (h : DkP S w) (hs : St [bl S.bd, bl S.bm] w w' L) : ∀ k, S.rr k → w'.heap[k]? = w.heap[k]? :=
  fun k hk => hs.old k (h.r k hk).1 (by simp [bl]; exact (h.r k hk).2)
/-- its files have turned -/
theorem turn_files {S : DkS} {w w' : World} {L : List Ent} (h : DkP S w) (hs : St [bl S.bd, bl S.bm] w w' L) (D' : Dk) (rr' : Nat → Prop) (es' : Es (List UInt8)) (clk' : Nat) (h0 : L[0]? = some (cl S.bd (dkC D' S.bm) TD)) (h1 : L[1]? = some (me S.bm keS es' clk'))
    (hf : FilesOk rr' w' es' clk' D'.files) (hr : ∀ k, rr' k → S.rr k ∨ (w.heap.size ≤ k ∧ k < w'.heap.size)) : Turns w w' (dkR S) (dkR ⟨D', S.bd, S.bm, rr', es', clk'⟩) := by
  have l0 := (Array.getElem?_eq_some_iff.1 h.d).1
  have l1 := (Array.getElem?_eq_some_iff.1 h.m).1
  refine Turns.of_st hs (fun k hk => ?_) ⟨hs.nth h0, hs.nth h1, hf, h.ne, fun k hk => ?_⟩ (fun k hk => .inl hk) (fun k hk => ?_)
  · simpa [bl, dkR] using hk
  · rcases hr k hk with h2 | ⟨h2, h3⟩
    · exact ⟨Nat.lt_of_lt_of_le (h.r k h2).1 hs.size, (h.r k h2).2⟩
    · exact ⟨h3, by show k ≠ S.bd; omega, by show k ≠ S.bm; omega⟩
  · rcases hk with hk | hk
    · exact .inl (.inl hk)
    · rcases hr k hk with h2 | ⟨h2, h3⟩
      · exact .inl (.inr h2)
      · exact .inr h2
/-- what lies behind the disk's two blocks is new -/
theorem st_fresh {a b d : Nat} {w w' : World} {L : List Ent} {o oa ob : Obj} {k : Nat} (hs : St [bl a, bl b] w w' L) (hk : L[k]? = some ⟨d, some o, false, none⟩) (h0 : L[0]? = some ⟨a, some oa, false, none⟩) (h1 : L[1]? = some ⟨b, some ob, false, none⟩) (hk2 : 2 ≤ k) : w.heap.size ≤ d := by
  rcases hs.own _ (List.mem_of_getElem? hk) rfl rfl with h9 | h9
  · exact h9
  · simp only [inM_cons, inM_nil, or_false, bl] at h9
    rcases h9 with h9 | h9
    · exact ((pw_ne hs.apart hk h0 (by omega) d).1 (by simp) (by simp [h9])).elim
    · exact ((pw_ne hs.apart hk h1 (by omega) d).1 (by simp) (by simp [h9])).elim
theorem le_sum {l : List Nat} {a : Nat} (h : a ∈ l) : a ≤ l.sum := by
  induction l with
  | nil => cases h
  | cons b l ih =>
    rcases List.mem_cons.1 h with rfl | h
    · simp
    · have := ih h; simp; omega
theorem stepD_files (D : Dk) : (stepD D).2.files = D.files := by unfold stepD; split <;> rfl
/-- which error, and the disk then -/
def appendD (D : Dk) (n x : List UInt8) : Dk × Nat :=
  if namedL n = false then (D, 5) else if (D.quota : Int) - usedD D.files < x.length then (D, 3) else
  if (stepD D).1 then ({ (stepD D).2 with files := setF ⟨n, (match findF n D.files with | some f => f.bs | none => []) ++ x, match findF n D.files with | some f => f.sure | none => 0⟩ D.files }, 0) else ((stepD D).2, 4)
theorem infoS : (Try.prog.info? 31).map (fun i => (i.zero, i.size, i.bytes)) = some (some (.slice none 0 0), 1, 24) := by kernel_rfl
theorem undSS : Try.prog.underlying 103 = some (.slice 31) := by kernel_rfl
theorem bsS2 (a b : Option Addr) (n m k l : Nat) (w : World) : (Instr.buildSlice 103 2 #[(0, .slice a n k), (1, .slice b m l)]).run Try.prog w = .ok (.slice (some ⟨w.heap.size, 0, none⟩) 2 2) (w.alloc (.cells #[.slice a n k, .slice b m l] 31)) := by
  obtain ⟨i, hi, hz, hs, hb⟩ := infoOf infoS
  exact run_buildSlice w _ _ 2 _ #[.slice a n k, .slice b m l] i (.slice none 0 0) undSS hi hz (by rw [hs]; decide) (by rw [hs]; decide) (by rw [hs]; kernel_rfl)
/-- what a function that turns a disk does -/
def TurnR (S : DkS) (w : World) (D' : Dk) (code : Nat) (e : Ending) (w' : World) : Prop := ∃ S' : DkS, S'.D = D' ∧ S'.bd = S.bd ∧ S'.bm = S.bm ∧ e = .returned (errV code) ∧ Turns w w' (dkR S) (dkR S')
theorem TurnR.same {S : DkS} {w w' : World} (h : DkP S w) {L : List Ent} (hs : St [bl S.bd, bl S.bm] w w' L) (h0 : L[0]? = some (cl S.bd (dkC S.D S.bm) TD)) (h1 : L[1]? = some (me S.bm keS S.es S.clk)) (code : Nat) {v : Value} (hv : v = errV code) : TurnR S w S.D code (.returned v) w' := by
  refine ⟨S, rfl, rfl, rfl, by rw [hv], ?_⟩
  have := turn_files (S := S) h hs S.D S.rr S.es S.clk h0 h1 (dk_now h hs h0 h1).f (fun k hk => .inl hk)
  exact this
theorem TurnR.down {S : DkS} {w w' : World} (h : DkP S w) {L : List Ent} (hs : St [bl S.bd, bl S.bm] w w' L) (h0 : L[0]? = some (cl S.bd (dkC (stepD S.D).2 S.bm) TD)) (h1 : L[1]? = some (me S.bm keS S.es S.clk)) {v : Value} (hv : v = ErrN 4) : TurnR S w (stepD S.D).2 4 (.returned v) w' := by
  refine ⟨S.withD (stepD S.D).2, rfl, rfl, rfl, by rw [hv]; rfl, ?_⟩
  exact turn_nums h hs _ (stepD_files _) (hs.nth h0) (hs.nth h1)
def xss (a b : List UInt8) : List (List Value) := [Lib.byteCells a, Lib.byteCells b]
set_option maxRecDepth 100000 in
set_option maxHeartbeats 1000000 in
theorem append_any (S : DkS) (n x : List UInt8) (hn : n.length ≤ 1000000) (hx : x.length ≤ 1000000) (v : Value) (w : World) (h : DkP S w) (hv : Rd w v (Lib.byteCells x)) (hvd : ∀ w' : World, w.heap.size ≤ w'.heap.size → (∀ k, k < w.heap.size → ¬ InM [bl S.bd, bl S.bm] k → w'.heap[k]? = w.heap[k]?) → Rd w' v (Lib.byteCells x))
    (hst : S.D.steps ≤ 1000000) (hl : S.D.left ≤ 9223372036854775807) (hu : usedD S.D.files ≤ 16777216) (hq : S.D.quota ≤ 16777216) : Calls Try.prog 18 ([ptr S.bd, VS n, v] : List Value).toArray w (TurnR S w (appendD S.D n x).1 (appendD S.D n x).2) := by
  have hxw := hvd
  obtain ⟨xa, xc, rfl, _⟩ := hv
  rw [Lib.byteCells_length] at hxw ⊢
  refine (enter tab_ok Try.func18 rfl Try.ntmps18 rfl (dk_rw h) (R := fun v w' => TurnR S w (appendD S.D n x).1 (appendD S.D n x).2 (.returned v) w') ?_).mono (fun e w' ⟨v, he, h⟩ => by rw [he]; exact h)
  intro b3 b4 b5
  refine ld1 2 rfl rfl ?_
  refine cf rfl ?_
  refine ld1 3 rfl rfl ?_
  refine cv (named_any n hn) ?_
  cases hnm : namedL n with
  | false =>
    have e1 : appendD S.D n x = (S.D, 5) := if_pos hnm
    rw [e1]
    refine ct rfl ?_
    exact ⟨fun w1 hs => TurnR.same h hs rfl rfl 5 rfl⟩
  | true =>
    refine cf rfl ?_
    refine dr [cl S.bd (dkC S.D S.bm) TD, me S.bm keS S.es S.clk, cl b3 #[ptr S.bd] 25, cl b4 #[VS n] 9, cl b5 #[.slice xa x.length xc] 31] 99 (.t 0 (.t 1 (.t 2 (.t 3 (.t 4 (.t 5 .nil)))))) tab_ok mixed_ok (by kernel_rfl) (.cons (.cons (.cons (.cons (.cons .nil))))) ?_
    refine ld1 4 rfl rfl ?_
    refine ld1 2 rfl rfl ?_
    refine czs (fun w' hs => free_any S w' (dk_now h hs rfl rfl) (by omega) hq) ?_
    by_cases hfull : (S.D.quota : Int) - usedD S.D.files < x.length
    · have e1 : appendD S.D n x = (S.D, 3) := by unfold appendD; rw [if_neg (by rw [hnm]; decide), if_pos hfull]
      rw [e1]
      refine ct (decide_eq_true hfull) ?_
      exact ⟨fun w1 hs => TurnR.same h hs rfl rfl 3 rfl⟩
    · refine cf (decide_eq_false hfull) ?_
      refine ld1 2 rfl rfl ?_
      refine step_in 0 rfl rfl hst hl (fun h0 => ?_) (fun h0 => ?_)
      · have e1 : appendD S.D n x = ((stepD S.D).2, 4) := by unfold appendD; rw [if_neg (by rw [hnm]; decide), if_neg hfull, if_neg (by rw [h0]; decide)]
        rw [e1]
        exact ⟨fun w1 hs => TurnR.down h hs rfl rfl rfl⟩
      · refine inl (C := ⟨Try.prog, tab, 44, [bl S.bd, bl S.bm], w, none⟩) tab_ok Try.func46 rfl Try.ntmps46 rfl ?_
        obtain ⟨f0, s0, a, l, c, hl0, hget, hf0, hD, hb1, hb2⟩ : ∃ f0 s0 a l c, l = f0.length ∧ (getS n S.es).getD zF = .agg #[.slice a l c, .int .i64 (s0 : Nat)] ∧ (∀ w', (∀ k, S.rr k → w'.heap[k]? = w.heap[k]?) → RdR S.rr w' (.slice a f0.length c) (Lib.byteCells f0)) ∧ (appendD S.D n x).1 = { (stepD S.D).2 with files := setF ⟨n, f0 ++ x, s0⟩ S.D.files } ∧ s0 ≤ f0.length ∧ f0.length + x.length ≤ 16777216 := by
          have e1 : appendD S.D n x = ({ (stepD S.D).2 with files := setF ⟨n, (match findF n S.D.files with | some f => f.bs | none => []) ++ x, match findF n S.D.files with | some f => f.sure | none => 0⟩ S.D.files }, 0) := by unfold appendD; rw [if_neg (by rw [hnm]; decide), if_neg hfull, if_pos h0]
          have hle : ∀ f ∈ S.D.files, f.bs.length ≤ usedD S.D.files := fun f hf => by
            unfold usedD
            exact le_sum (List.mem_map_of_mem (f := fun f : Fe => f.bs.length) hf)
          rw [e1]
          rcases getF h.f.all n with ⟨h1, h2⟩ | ⟨f, v, h1, h2, h3⟩
          · rw [h1, h2]
            exact ⟨[], 0, none, 0, 0, rfl, rfl, fun w' _ => ⟨none, 0, rfl, Nat.le_refl _, Nat.zero_le _, by simp, fun _ => rfl, fun h => absurd rfl h⟩, rfl, Nat.le_refl _, by simp; omega⟩
          · have h3' := fun w' hh => h3.same (v := w') hh
            obtain ⟨a, c, rfl, _⟩ := h3
            rw [Lib.byteCells_length] at h3' h2
            rw [h1, h2]
            have := hle f (findF_mem h1).1
            exact ⟨f.bs, f.sure, a, _, c, rfl, rfl, h3', rfl, (h.f.sz f (findF_mem h1).1).1, by omega⟩
        have hcode : (appendD S.D n x).2 = 0 := by unfold appendD; rw [if_neg (by rw [hnm]; decide), if_neg hfull, if_pos h0]
        rw [hcode]
        subst hl0
        have hcatl : (xss f0 x).flatten = Lib.byteCells (f0 ++ x) := by simp [xss, Lib.byteCells_append]
        refine dr [cl S.bd (dkC (stepD S.D).2 S.bm) TD, me S.bm keS S.es S.clk, cl b3 #[ptr S.bd] 25, cl b4 #[VS n] 9, cl b5 #[.slice xa x.length xc] 31] 99 (.t 0 (.t 1 (.t 2 (.t 3 (.t 4 (.b 5 6 (.n 6 (.n 7 .nil)) (.n 5 (.n 7 .nil)))))))) tab_ok mixed_ok (by kernel_rfl) (.cons (.cons (.cons (.cons (.cons .nil))))) ?_
        refine ld1 2 rfl rfl ?_
        refine ld1 0 rfl (v := .map (some S.bm)) rfl ?_
        refine ld1 3 rfl rfl ?_
        refine ⟨?_, ?_⟩
        · refine lkp (ke := keS) (k := n) 1 rfl undM keyM zeroF ?_
          rw [if_neg (by decide), hget]
          refine ⟨.cons (.cons (.cons (.cons (.cons .nil)))), ?_⟩
          intro b6
          refine ⟨.cons (.cons (.cons (.cons (.cons .nil)))), ?_⟩
          refine sN 5 rfl rfl rfl ?_ (by kernel_rfl)
          refine ⟨.cons (.cons (.cons (.cons (.cons .nil)))), ?_⟩
          refine ld1 5 rfl (v := .slice a f0.length c) rfl ?_
          refine ld1 4 rfl rfl ?_
          refine .mk _ _ (bsS2 _ _ _ _ _ _) (fun b7 => ?_)
          refine co (xs := (xss f0 x).flatten) (n := (xss f0 x).flatten.length) (z := 1) (e := 5) (fun w1 hs => ?_) (fun r hR => ?_)
          · have hr := dk_old h hs
            refine concat_any b7 0 2 [.slice a f0.length c, .slice xa x.length xc] (xss f0 x) rfl w1 (hs.lt (List.mem_of_getElem? (i := 6) rfl) rfl) (fun i u hu => ?_) (fun i v xs h1 h2 => ?_) (fun xs hxs u hu => ?_) (by rw [hcatl, Lib.byteCells_length, List.length_append]; omega) (by simp [xss])
            · rw [hs.cell (k := 6) rfl (0 + i), Nat.zero_add]
              simpa using hu
            · rcases i with _ | _ | i
              · obtain rfl := Option.some.inj h1
                obtain rfl := Option.some.inj h2
                exact (hf0 w1 hr).rd
              · obtain rfl := Option.some.inj h1
                obtain rfl := Option.some.inj h2
                exact hxw w1 hs.size (fun k hk => hs.old k hk)
              · cases h1
            · simp only [xss, List.mem_cons, List.not_mem_nil, or_false] at hxs
              rcases hxs with rfl | rfl
              · exact one8 _ u hu
              · exact one8 _ u hu
          rw [hcatl] at hR ⊢
          refine s1 5 rfl (show 0 < 2 by decide) ?_ (h1 := by cases r <;> rfl) (hv := by cases r <;> rfl)
          refine dr [cl S.bd (dkC (stepD S.D).2 S.bm) TD, me S.bm keS S.es S.clk, cl b3 #[ptr S.bd] 25, cl b4 #[VS n] 9, cl b5 #[.slice xa x.length xc] 31, cl b6 #[sv r (Lib.byteCells (f0 ++ x)).length, .int .i64 s0] TF] 6 (.t 0 (.t 1 (.t 2 (.t 3 (.t 4 (.t 5 (.n 6 .nil))))))) tab_ok mixed_ok (by kernel_rfl) (.cons (.cons (.cons (.cons (.cons (.cons .nil)))))) ?_
          refine ld1 2 rfl rfl ?_
          refine ld1 0 rfl (v := .map (some S.bm)) rfl ?_
          refine ld1 3 rfl rfl ?_
          refine ldN 5 rfl rfl ?_
          refine mup (ke := keS) (k := n) 1 rfl undM keyM ?_
          refine bk ?_
          refine ⟨fun w1 hs => ?_⟩
          have hr := dk_old h hs
          have hown := RdR.own hs 7 rfl hR
          refine ⟨⟨{ (stepD S.D).2 with files := setF ⟨n, f0 ++ x, s0⟩ S.D.files }, S.bd, S.bm, fun k => S.rr k ∨ rowB r k, setS n (.agg #[sv r (Lib.byteCells (f0 ++ x)).length, .int .i64 s0]) S.clk S.es, clkS n S.es S.clk⟩, hD.symm, rfl, rfl, rfl, ?_⟩
          refine turn_files h hs _ _ _ _ rfl rfl ?_ (fun k hk => ?_)
          · have hfo := (h.f.same hr).mono (rr' := fun k => S.rr k ∨ rowB r k) (fun k hk => .inl hk)
            exact hfo.set ⟨n, f0 ++ x, s0⟩ (sv r (Lib.byteCells (f0 ++ x)).length) (hown.mono fun k hk => .inr hk) (by simp only [List.length_append]; omega) (by simp only [List.length_append]; omega) (namedL_len hnm)
          · rcases hk with hk | ⟨b, c', j, rfl, rfl⟩
            · exact .inl hk
            · refine .inr ⟨?_, hs.lt (List.mem_of_getElem? (i := 7) rfl) rfl⟩
              exact st_fresh (k := 7) hs rfl rfl rfl (by decide)
        · intro b6
          refine ⟨.cons (.cons (.cons (.cons (.cons .nil)))), ?_⟩
          refine lkp (ke := keS) (k := n) 1 rfl undM keyM zeroF ?_
          rw [if_neg (by decide), hget]
          refine ⟨.cons (.cons (.cons (.cons (.cons .nil)))), ?_⟩
          refine sN 5 rfl rfl rfl ?_ (by kernel_rfl)
          refine ⟨.cons (.cons (.cons (.cons (.cons .nil)))), ?_⟩
          refine ld1 5 rfl (v := .slice a f0.length c) rfl ?_
          refine ld1 4 rfl rfl ?_
          refine .mk _ _ (bsS2 _ _ _ _ _ _) (fun b7 => ?_)
          refine co (xs := (xss f0 x).flatten) (n := (xss f0 x).flatten.length) (z := 1) (e := 5) (fun w1 hs => ?_) (fun r hR => ?_)
          · have hr := dk_old h hs
            refine concat_any b7 0 2 [.slice a f0.length c, .slice xa x.length xc] (xss f0 x) rfl w1 (hs.lt (List.mem_of_getElem? (i := 6) rfl) rfl) (fun i u hu => ?_) (fun i v xs h1 h2 => ?_) (fun xs hxs u hu => ?_) (by rw [hcatl, Lib.byteCells_length, List.length_append]; omega) (by simp [xss])
            · rw [hs.cell (k := 6) rfl (0 + i), Nat.zero_add]
              simpa using hu
            · rcases i with _ | _ | i
              · obtain rfl := Option.some.inj h1
                obtain rfl := Option.some.inj h2
                exact (hf0 w1 hr).rd
              · obtain rfl := Option.some.inj h1
                obtain rfl := Option.some.inj h2
                exact hxw w1 hs.size (fun k hk => hs.old k hk)
              · cases h1
            · simp only [xss, List.mem_cons, List.not_mem_nil, or_false] at hxs
              rcases hxs with rfl | rfl
              · exact one8 _ u hu
              · exact one8 _ u hu
          rw [hcatl] at hR ⊢
          refine s1 5 rfl (show 0 < 2 by decide) ?_ (h1 := by cases r <;> rfl) (hv := by cases r <;> rfl)
          refine dr [cl S.bd (dkC (stepD S.D).2 S.bm) TD, me S.bm keS S.es S.clk, cl b3 #[ptr S.bd] 25, cl b4 #[VS n] 9, cl b5 #[.slice xa x.length xc] 31, cl b6 #[sv r (Lib.byteCells (f0 ++ x)).length, .int .i64 s0] TF] 6 (.t 0 (.t 1 (.t 2 (.t 3 (.t 4 (.t 5 (.n 6 .nil))))))) tab_ok mixed_ok (by kernel_rfl) (.cons (.cons (.cons (.cons (.cons (.cons .nil)))))) ?_
          refine ld1 2 rfl rfl ?_
          refine ld1 0 rfl (v := .map (some S.bm)) rfl ?_
          refine ld1 3 rfl rfl ?_
          refine ldN 5 rfl rfl ?_
          refine mup (ke := keS) (k := n) 1 rfl undM keyM ?_
          refine bk ?_
          refine ⟨fun w1 hs => ?_⟩
          have hr := dk_old h hs
          have hown := RdR.own hs 7 rfl hR
          refine ⟨⟨{ (stepD S.D).2 with files := setF ⟨n, f0 ++ x, s0⟩ S.D.files }, S.bd, S.bm, fun k => S.rr k ∨ rowB r k, setS n (.agg #[sv r (Lib.byteCells (f0 ++ x)).length, .int .i64 s0]) S.clk S.es, clkS n S.es S.clk⟩, hD.symm, rfl, rfl, rfl, ?_⟩
          refine turn_files h hs _ _ _ _ rfl rfl ?_ (fun k hk => ?_)
          · have hfo := (h.f.same hr).mono (rr' := fun k => S.rr k ∨ rowB r k) (fun k hk => .inl hk)
            exact hfo.set ⟨n, f0 ++ x, s0⟩ (sv r (Lib.byteCells (f0 ++ x)).length) (hown.mono fun k hk => .inr hk) (by simp only [List.length_append]; omega) (by simp only [List.length_append]; omega) (namedL_len hnm)
          · rcases hk with hk | ⟨b, c', j, rfl, rfl⟩
            · exact .inl hk
            · refine .inr ⟨?_, hs.lt (List.mem_of_getElem? (i := 7) rfl) rfl⟩
              exact st_fresh (k := 7) hs rfl rfl rfl (by decide)
end Go.Proofs.Ytdgkaboaapfnmaa
