/- The disk: Sync, Cut, Rename, Drop. -/
import Derived.Test.YtdgkaboaapfnmaaDkF
import Derived.Laws.Small
namespace Go.Proofs.Ytdgkaboaapfnmaa
open Go.RowKit Go.Sx
set_option linter.unusedVariables false

theorem biMin {C : Cx} {L : List Ent} {ts : Array TypeId} {t : TypeId} {cs : Array Bool} {k : IntKind} {x y : Int} {next : Value → List Ent → Prop} (go : next (.int k (min x y)) L) : BiP C .min ts t cs [.int k x, .int k y] L next := by
  have e : (if y < x then y else x) = min x y := by split <;> omega
  rw [← e] at go
  exact biV (m := Builtin.min_ ts t #[.int k x, .int k y]) rfl (fun w _ => run_min_int2 w ts t k k x y) go
theorem biMax {C : Cx} {L : List Ent} {ts : Array TypeId} {t : TypeId} {cs : Array Bool} {k : IntKind} {x y : Int} {next : Value → List Ent → Prop} (go : next (.int k (max x y)) L) : BiP C .max ts t cs [.int k x, .int k y] L next := by
  have e : (if y > x then y else x) = max x y := by split <;> omega
  rw [← e] at go
  exact biV (m := Builtin.max_ ts t #[.int k x, .int k y]) rfl (fun w _ => run_max_int2 w ts t k k x y) go
/-- a disk's step, and what is done with its files -/
def actD (D : Dk) (fs : List Fe) : Dk × Nat := if (stepD D).1 then ({ (stepD D).2 with files := fs }, 0) else ((stepD D).2, 4)
def syncD (D : Dk) (n : List UInt8) : Dk × Nat := match findF n D.files with
  | none => (D, 5)
  | some f => actD D (setF ⟨n, f.bs, f.bs.length⟩ D.files)
def cutD (D : Dk) (n : List UInt8) (size : Int) : Dk × Nat := match findF n D.files with
  | none => (D, 5)
  | some f => if size < 0 ∨ (f.bs.length : Int) < size then (D, 2) else actD D (setF ⟨n, f.bs.take size.toNat, min f.sure size.toNat⟩ D.files)
def renameD (D : Dk) (n m : List UInt8) : Dk × Nat := match findF n D.files with
  | none => (D, 5)
  | some f => if namedL m = false then (D, 5) else actD D (setF ⟨m, f.bs, f.bs.length⟩ (delF n D.files))
def dropD (D : Dk) (n : List UInt8) : Dk × Nat := match findF n D.files with
  | none => (D, 5)
  | some _ => actD D (delF n D.files)
/-- files turned, in the blocks that there were -/
theorem TurnR.done {S : DkS} {w w' : World} (h : DkP S w) {L : List Ent} (hs : St [bl S.bd, bl S.bm] w w' L) (fs : List Fe) (es' : Es (List UInt8)) (clk' : Nat) (hst : (stepD S.D).1 = true) (h0 : L[0]? = some (cl S.bd (dkC (stepD S.D).2 S.bm) TD)) (h1 : L[1]? = some (me S.bm keS es' clk'))
    (hf : FilesOk S.rr w' es' clk' fs) {v : Value} (hv : v = .nilIface) : TurnR S w (actD S.D fs).1 (actD S.D fs).2 (.returned v) w' := by
  have e1 : actD S.D fs = ({ (stepD S.D).2 with files := fs }, 0) := if_pos hst
  rw [e1]
  refine ⟨⟨{ (stepD S.D).2 with files := fs }, S.bd, S.bm, S.rr, es', clk'⟩, rfl, rfl, rfl, by rw [hv]; rfl, ?_⟩
  exact turn_files h hs _ _ _ _ h0 h1 hf (fun k hk => .inl hk)
theorem TurnR.off {S : DkS} {w w' : World} (h : DkP S w) {L : List Ent} (hs : St [bl S.bd, bl S.bm] w w' L) (fs : List Fe) (hst : (stepD S.D).1 = false) (h0 : L[0]? = some (cl S.bd (dkC (stepD S.D).2 S.bm) TD)) (h1 : L[1]? = some (me S.bm keS S.es S.clk)) {v : Value} (hv : v = ErrN 4) : TurnR S w (actD S.D fs).1 (actD S.D fs).2 (.returned v) w' := by
  have e1 : actD S.D fs = ((stepD S.D).2, 4) := if_neg (by rw [hst]; decide)
  rw [e1]; exact TurnR.down h hs h0 h1 hv
/-- a beginning of what is read -/
theorem RdR.cut {rr : Nat → Prop} {w : World} {a : Option Addr} {n c k : Nat} {l : List UInt8} (h : RdR rr w (.slice a n c) (Lib.byteCells l)) (hk : k ≤ l.length) : RdR rr w (.slice a k k) (Lib.byteCells (l.take k)) ∧ n = l.length ∧ l.length ≤ c ∧ c ≤ maxLen ∧ (∀ x, a = some x → x.spot = none) ∧ (a = none → c = 0) := by
  obtain ⟨a', c', e, h1, h2, h3, h3', h4⟩ := h
  injection e with e1 e2 e3
  subst e1 e3
  rw [Lib.byteCells_length] at h1 e2
  refine ⟨⟨a, k, by rw [Lib.byteCells_length, List.length_take, Nat.min_eq_left hk], by rw [Lib.byteCells_length, List.length_take]; omega, by omega, h3, fun h => by have := h3' h; omega, fun hx => ?_⟩, e2, h1, h2, h3, h3'⟩
  have hb : Lib.byteCells (l.take k) = (Lib.byteCells l).take k := by simp [Lib.byteCells, List.map_take]
  obtain ⟨b, o, ha, hb1, hb2, hc⟩ := h4 (by intro h0; apply hx; rw [hb, h0]; simp)
  refine ⟨b, o, ha, hb1, hb2, fun j u hu => ?_⟩
  rw [hb, List.getElem?_take] at hu
  split at hu
  · exact hc j u hu
  · cases hu
/-- s[:k:k] -/
theorem slCap {e z : Nat} {aa : Option Addr} {n cap k : Nat} (ha : ∀ a, aa = some a → a.spot = none) (hk : k ≤ cap) {next : Value → Prop} {fb : Prop} (go : next (.slice aa k k)) : SliP (.sl e z) (.slice aa n cap) none (some (k : Int)) (some (k : Int)) next fb := by
  refine ⟨?_⟩
  cases aa with
  | none => exact .mk 0 k k rfl rfl rfl (Nat.zero_le _) (Nat.le_refl _) hk (by simp) go
  | some a =>
    obtain ⟨b, o, sp⟩ := a
    obtain rfl : sp = none := ha _ rfl
    refine .mk 0 k k rfl rfl rfl (Nat.zero_le _) (Nat.le_refl _) hk (by simp) ?_
    by_cases h0 : k = 0
    · subst h0; exact .all rfl go
    · refine .on (by omega) ?_
      rw [nad_eq, nmu_eq, Nat.zero_mul, Nat.add_zero]; exact go
set_option maxRecDepth 100000 in
set_option maxHeartbeats 1000000 in
theorem sync_any (S : DkS) (n : List UInt8) (w : World) (h : DkP S w) (hst : S.D.steps ≤ 1000000) (hl : S.D.left ≤ 9223372036854775807) : Calls Try.prog 26 ([ptr S.bd, VS n] : List Value).toArray w (TurnR S w (syncD S.D n).1 (syncD S.D n).2) := by
  refine (enter tab_ok Try.func26 rfl Try.ntmps26 rfl (dk_rw h) (R := fun v w' => TurnR S w (syncD S.D n).1 (syncD S.D n).2 (.returned v) w') ?_).mono (fun e w' ⟨v, he, h⟩ => by rw [he]; exact h)
  intro b3 b4
  refine ld1 2 rfl rfl ?_
  refine ld1 3 rfl rfl ?_
  refine cvs (fun w' hs => has_any S n w' (dk_now h hs rfl rfl)) ?_
  rcases getF h.f.all n with ⟨h1, h2⟩ | ⟨f, v, h1, h2, h3⟩
  · have e1 : syncD S.D n = (S.D, 5) := by unfold syncD; rw [h1]
    rw [e1, h2]
    intro bf
    refine sN 4 rfl rfl rfl ?_ (by kernel_rfl)
    refine ct rfl ?_
    exact ⟨fun w1 hs => TurnR.same h hs rfl rfl 5 rfl⟩
  · have h3' := fun w' hh => h3.same (v := w') hh
    obtain ⟨a, c, rfl, _⟩ := h3
    rw [Lib.byteCells_length] at h3' h2
    have hz := h.f.sz f (findF_mem h1).1
    have hzn : n.length ≤ 64 := by rw [← (findF_mem h1).2]; exact hz.2.2
    rw [h2]
    intro bf
    refine sN 4 rfl rfl rfl ?_ (by kernel_rfl)
    refine cf rfl ?_
    have e1 : syncD S.D n = actD S.D (setF ⟨n, f.bs, f.bs.length⟩ S.D.files) := by unfold syncD; rw [h1]
    rw [e1]
    refine ld1 2 rfl rfl ?_
    refine step_in 0 rfl rfl hst hl (fun h0 => ?_) (fun h0 => ?_)
    · exact ⟨fun w1 hs => TurnR.off h hs (setF ⟨n, f.bs, f.bs.length⟩ S.D.files) h0 rfl rfl rfl⟩
    · refine inl (C := ⟨Try.prog, tab, 44, [bl S.bd, bl S.bm], w, none⟩) tab_ok Try.func54 rfl Try.ntmps54 rfl ?_
      refine dr [cl S.bd (dkC (stepD S.D).2 S.bm) TD, me S.bm keS S.es S.clk, cl b3 #[ptr S.bd] 25, cl b4 #[VS n] 9, cl bf #[.slice a f.bs.length c, .int .i64 f.sure] TF] 11 (.t 0 (.t 1 (.t 2 (.t 3 (.t 4 (.t 5 (.t 6 (.t 7 (.t 8 (.t 9 (.t 10 (.n 11 .nil)))))))))))) tab_ok mixed_ok (by kernel_rfl) (.cons (.cons (.cons (.cons (.cons (.nil)))))) ?_
      refine ld1 2 rfl rfl ?_
      refine ld1 0 rfl (v := .map (some S.bm)) rfl ?_
      refine ld1 3 rfl rfl ?_
      refine ld1 4 rfl (v := .slice a f.bs.length c) rfl ?_
      refine ld1 4 rfl (v := .slice a f.bs.length c) rfl ?_
      refine bu (c := #[.slice a f.bs.length c, .int .i64 f.bs.length]) (by kernel_rfl) ?_
      refine mup (ke := keS) (k := n) 1 rfl undM keyM ?_
      refine bk ?_
      exact ⟨fun w1 hs => TurnR.done h hs _ _ _ h0 rfl rfl ((h.f.same (dk_old h hs)).set ⟨n, f.bs, f.bs.length⟩ _ (h3' w1 (dk_old h hs)) (Nat.le_refl _) hz.2.1 hzn) rfl⟩
set_option maxRecDepth 100000 in
set_option maxHeartbeats 1000000 in
theorem drop_any (S : DkS) (n : List UInt8) (w : World) (h : DkP S w) (hst : S.D.steps ≤ 1000000) (hl : S.D.left ≤ 9223372036854775807) : Calls Try.prog 29 ([ptr S.bd, VS n] : List Value).toArray w (TurnR S w (dropD S.D n).1 (dropD S.D n).2) := by
  refine (enter tab_ok Try.func29 rfl Try.ntmps29 rfl (dk_rw h) (R := fun v w' => TurnR S w (dropD S.D n).1 (dropD S.D n).2 (.returned v) w') ?_).mono (fun e w' ⟨v, he, h⟩ => by rw [he]; exact h)
  intro b3 b4
  refine ld1 2 rfl rfl ?_
  refine ld1 3 rfl rfl ?_
  refine cvs (fun w' hs => has_any S n w' (dk_now h hs rfl rfl)) ?_
  rcases getF h.f.all n with ⟨h1, h2⟩ | ⟨f, v, h1, h2, h3⟩
  · have e1 : dropD S.D n = (S.D, 5) := by unfold dropD; rw [h1]
    rw [e1, h2]
    intro bf
    refine sN 4 rfl rfl rfl ?_ (by kernel_rfl)
    refine ct rfl ?_
    exact ⟨fun w1 hs => TurnR.same h hs rfl rfl 5 rfl⟩
  · have h3' := fun w' hh => h3.same (v := w') hh
    obtain ⟨a, c, rfl, _⟩ := h3
    rw [Lib.byteCells_length] at h3' h2
    have hz := h.f.sz f (findF_mem h1).1
    have hzn : n.length ≤ 64 := by rw [← (findF_mem h1).2]; exact hz.2.2
    rw [h2]
    intro bf
    refine sN 4 rfl rfl rfl ?_ (by kernel_rfl)
    refine cf rfl ?_
    have e1 : dropD S.D n = actD S.D (delF n S.D.files) := by unfold dropD; rw [h1]
    rw [e1]
    refine ld1 2 rfl rfl ?_
    refine step_in 0 rfl rfl hst hl (fun h0 => ?_) (fun h0 => ?_)
    · exact ⟨fun w1 hs => TurnR.off h hs (delF n S.D.files) h0 rfl rfl rfl⟩
    · refine inl (C := ⟨Try.prog, tab, 44, [bl S.bd, bl S.bm], w, none⟩) tab_ok Try.func57 rfl Try.ntmps57 rfl ?_
      refine dr [cl S.bd (dkC (stepD S.D).2 S.bm) TD, dead, cl b3 #[ptr S.bd] 25, cl b4 #[VS n] 9] 99 (.t 0 (.t 1 (.t 2 (.t 3 (.t 4 (.n 5 .nil)))))) tab_ok mixed_ok (by kernel_rfl) (.cons (.dead (.cons (.cons .nil)))) ?_
      refine ld1 2 rfl rfl ?_
      refine ld1 0 rfl (v := .map (some S.bm)) rfl ?_
      refine ld1 3 rfl rfl ?_
      refine dlt (ke := keS) (k := n) 1 rfl undM keyM ?_
      refine ⟨.cons (.dead (.cons (.cons .nil))), ?_⟩
      refine bk ?_
      exact ⟨fun w1 hs => TurnR.done h hs _ _ _ h0 rfl rfl ((h.f.same (dk_old h hs)).del n) rfl⟩
set_option maxRecDepth 100000 in
set_option maxHeartbeats 1000000 in
theorem rename_any (S : DkS) (n m : List UInt8) (hm : m.length ≤ 1000000) (w : World) (h : DkP S w) (hst : S.D.steps ≤ 1000000) (hl : S.D.left ≤ 9223372036854775807) : Calls Try.prog 28 ([ptr S.bd, VS n, VS m] : List Value).toArray w (TurnR S w (renameD S.D n m).1 (renameD S.D n m).2) := by
  refine (enter tab_ok Try.func28 rfl Try.ntmps28 rfl (dk_rw h) (R := fun v w' => TurnR S w (renameD S.D n m).1 (renameD S.D n m).2 (.returned v) w') ?_).mono (fun e w' ⟨v, he, h⟩ => by rw [he]; exact h)
  intro b3 b4 b5
  refine ld1 2 rfl rfl ?_
  refine ld1 3 rfl rfl ?_
  refine cvs (fun w' hs => has_any S n w' (dk_now h hs rfl rfl)) ?_
  rcases getF h.f.all n with ⟨h1, h2⟩ | ⟨f, v, h1, h2, h3⟩
  · have e1 : renameD S.D n m = (S.D, 5) := by unfold renameD; rw [h1]
    rw [e1, h2]
    intro bf
    refine sN 5 rfl rfl rfl ?_ (by kernel_rfl)
    refine ct rfl ?_
    exact ⟨fun w1 hs => TurnR.same h hs rfl rfl 5 rfl⟩
  · have h3' := fun w' hh => h3.same (v := w') hh
    obtain ⟨a, c, rfl, _⟩ := h3
    rw [Lib.byteCells_length] at h3' h2
    have hz := h.f.sz f (findF_mem h1).1
    have hzn : n.length ≤ 64 := by rw [← (findF_mem h1).2]; exact hz.2.2
    rw [h2]
    intro bf
    refine sN 5 rfl rfl rfl ?_ (by kernel_rfl)
    refine cf rfl ?_
    refine ld1 4 rfl rfl ?_
    refine cv (named_any m hm) ?_
    cases hnm : namedL m with
    | false =>
      have e1 : renameD S.D n m = (S.D, 5) := by unfold renameD; rw [h1]; exact if_pos hnm
      rw [e1]
      refine ct rfl ?_
      exact ⟨fun w1 hs => TurnR.same h hs rfl rfl 5 rfl⟩
    | true =>
    have e1 : renameD S.D n m = actD S.D (setF ⟨m, f.bs, f.bs.length⟩ (delF n S.D.files)) := by unfold renameD; rw [h1]; exact if_neg (by rw [hnm]; decide)
    rw [e1]
    refine cf rfl ?_
    refine ld1 2 rfl rfl ?_
    refine step_in 0 rfl rfl hst hl (fun h0 => ?_) (fun h0 => ?_)
    · exact ⟨fun w1 hs => TurnR.off h hs (setF ⟨m, f.bs, f.bs.length⟩ (delF n S.D.files)) h0 rfl rfl rfl⟩
    · refine inl (C := ⟨Try.prog, tab, 44, [bl S.bd, bl S.bm], w, none⟩) tab_ok Try.func56 rfl Try.ntmps56 rfl ?_
      refine dr [cl S.bd (dkC (stepD S.D).2 S.bm) TD, dead, cl b3 #[ptr S.bd] 25, cl b4 #[VS n] 9] 99 (.t 0 (.t 1 (.t 2 (.t 3 (.t 4 (.n 5 .nil)))))) tab_ok mixed_ok (by kernel_rfl) (.cons (.dead (.cons (.cons .nil)))) ?_
      refine ld1 2 rfl rfl ?_
      refine ld1 0 rfl (v := .map (some S.bm)) rfl ?_
      refine ld1 3 rfl rfl ?_
      refine dlt (ke := keS) (k := n) 1 rfl undM keyM ?_
      refine ⟨.cons (.dead (.cons (.cons .nil))), ?_⟩
      refine dr [cl S.bd (dkC (stepD S.D).2 S.bm) TD, me S.bm keS (delS n S.es) S.clk, cl b3 #[ptr S.bd] 25, cl b4 #[VS n] 9, cl b5 #[VS m] 9, cl bf #[.slice a f.bs.length c, .int .i64 f.sure] TF] 11 (.t 0 (.t 1 (.t 2 (.t 3 (.t 4 (.t 5 (.t 6 (.t 7 (.t 8 (.t 9 (.t 10 (.n 11 .nil)))))))))))) tab_ok mixed_ok (by kernel_rfl) (.cons (.cons (.cons (.cons (.cons (.cons (.nil))))))) ?_
      refine ld1 2 rfl rfl ?_
      refine ld1 0 rfl (v := .map (some S.bm)) rfl ?_
      refine ld1 4 rfl rfl ?_
      refine ld1 5 rfl (v := .slice a f.bs.length c) rfl ?_
      refine ld1 5 rfl (v := .slice a f.bs.length c) rfl ?_
      refine bu (c := #[.slice a f.bs.length c, .int .i64 f.bs.length]) (by kernel_rfl) ?_
      refine mup (ke := keS) (k := m) 1 rfl undM keyM ?_
      refine bk ?_
      exact ⟨fun w1 hs => TurnR.done h hs _ _ _ h0 rfl rfl (((h.f.same (dk_old h hs)).del n).set ⟨m, f.bs, f.bs.length⟩ _ (h3' w1 (dk_old h hs)) (Nat.le_refl _) hz.2.1 (namedL_len hnm)) rfl⟩
set_option maxRecDepth 100000 in
set_option maxHeartbeats 1000000 in
theorem cut_any (S : DkS) (n : List UInt8) (size : Int) (w : World) (h : DkP S w) (hst : S.D.steps ≤ 1000000) (hl : S.D.left ≤ 9223372036854775807) : Calls Try.prog 27 ([ptr S.bd, VS n, .int .i64 size] : List Value).toArray w (TurnR S w (cutD S.D n size).1 (cutD S.D n size).2) := by
  refine (enter tab_ok Try.func27 rfl Try.ntmps27 rfl (dk_rw h) (R := fun v w' => TurnR S w (cutD S.D n size).1 (cutD S.D n size).2 (.returned v) w') ?_).mono (fun e w' ⟨v, he, h⟩ => by rw [he]; exact h)
  intro b3 b4 b5
  refine ld1 2 rfl rfl ?_
  refine ld1 3 rfl rfl ?_
  refine cvs (fun w' hs => has_any S n w' (dk_now h hs rfl rfl)) ?_
  rcases getF h.f.all n with ⟨h1, h2⟩ | ⟨f, v, h1, h2, h3⟩
  · have e1 : cutD S.D n size = (S.D, 5) := by unfold cutD; rw [h1]
    rw [e1, h2]
    intro bf
    refine sN 5 rfl rfl rfl ?_ (by kernel_rfl)
    refine ct rfl ?_
    exact ⟨fun w1 hs => TurnR.same h hs rfl rfl 5 rfl⟩
  · have h3' := fun w' hh => h3.same (v := w') hh
    obtain ⟨a, c, rfl, _⟩ := h3
    rw [Lib.byteCells_length] at h3' h2
    have hz := h.f.sz f (findF_mem h1).1
    have hzn : n.length ≤ 64 := by rw [← (findF_mem h1).2]; exact hz.2.2
    rw [h2]
    intro bf
    refine sN 5 rfl rfl rfl ?_ (by kernel_rfl)
    refine cf rfl ?_
    have hc := fun w' hh => RdR.cut (k := size.toNat) (h3' w' hh)
    by_cases hbad : size < 0 ∨ (f.bs.length : Int) < size
    · have e1 : cutD S.D n size = (S.D, 2) := by unfold cutD; rw [h1]; exact if_pos hbad
      rw [e1]
      refine ld1 4 rfl rfl ?_
      by_cases h0 : size < 0
      · have f1 := decide_eq_true h0
        have f2 : (decide (size < 0) == false) = false := by rw [f1]; rfl
        iterate 5 refine cf f2 ?_
        refine ct f1 ?_
        refine ct rfl ?_
        exact ⟨fun w1 hs => TurnR.same h hs rfl rfl 2 rfl⟩
      · have f1 := decide_eq_false h0
        have f2 : (decide (size < 0) == false) = true := by rw [f1]; rfl
        refine ct f2 ?_
        refine ld1 4 rfl rfl ?_
        iterate 2 refine ct f2 ?_
        refine ld1 5 rfl (v := .slice a f.bs.length c) rfl ?_
        iterate 2 refine ct f2 ?_
        refine cf f1 ?_
        refine ct (decide_eq_true (by omega)) ?_
        exact ⟨fun w1 hs => TurnR.same h hs rfl rfl 2 rfl⟩
    · have e1 : cutD S.D n size = actD S.D (setF ⟨n, f.bs.take size.toNat, min f.sure size.toNat⟩ S.D.files) := by unfold cutD; rw [h1]; exact if_neg hbad
      obtain ⟨k, rfl⟩ : ∃ k : Nat, size = k := ⟨size.toNat, by omega⟩
      rw [Int.toNat_natCast] at e1 hc
      rw [e1]
      have f1 := decide_eq_false (show ¬ (k : Int) < 0 by omega)
      have f2 : (decide ((k : Int) < 0) == false) = true := by rw [f1]; rfl
      refine ld1 4 rfl rfl ?_
      refine ct f2 ?_
      refine ld1 4 rfl rfl ?_
      iterate 2 refine ct f2 ?_
      refine ld1 5 rfl (v := .slice a f.bs.length c) rfl ?_
      iterate 2 refine ct f2 ?_
      refine cf f1 ?_
      refine cf (decide_eq_false (by omega)) ?_
      obtain ⟨_, _, hcc, _, hspot, _⟩ := hc w (fun _ _ => rfl) (by omega)
      refine ld1 2 rfl rfl ?_
      refine step_in 0 rfl rfl hst hl (fun h0 => ?_) (fun h0 => ?_)
      · exact ⟨fun w1 hs => TurnR.off h hs (setF ⟨n, f.bs.take k, min f.sure k⟩ S.D.files) h0 rfl rfl rfl⟩
      · refine inl (C := ⟨Try.prog, tab, 44, [bl S.bd, bl S.bm], w, none⟩) tab_ok Try.func55 rfl Try.ntmps55 rfl ?_
        refine dr [cl S.bd (dkC (stepD S.D).2 S.bm) TD, me S.bm keS S.es S.clk, cl b3 #[ptr S.bd] 25, cl b4 #[VS n] 9, cl b5 #[.int .i64 k] 3, cl bf #[.slice a f.bs.length c, .int .i64 f.sure] TF] 15 (.t 0 (.t 1 (.t 2 (.t 3 (.t 4 (.t 5 (.t 6 (.t 7 (.t 8 (.t 9 (.t 10 (.t 11 (.t 12 (.n 13 (.t 14 (.n 15 .nil)))))))))))))))) tab_ok mixed_ok (by kernel_rfl) (.cons (.cons (.cons (.cons (.cons (.cons (.nil))))))) ?_
        refine ld1 2 rfl rfl ?_
        refine ld1 0 rfl (v := .map (some S.bm)) rfl ?_
        refine ld1 3 rfl rfl ?_
        refine ld1 5 rfl (v := .slice a f.bs.length c) rfl ?_
        refine ld1 4 rfl rfl ?_
        refine ld1 4 rfl rfl ?_
        refine slCap hspot (by omega) ?_
        refine ld1 5 rfl (v := .int .i64 f.sure) rfl ?_
        refine ld1 4 rfl rfl ?_
        refine biMin ?_
        refine ⟨.cons (.cons (.cons (.cons (.cons (.cons (.nil)))))), ?_⟩
        refine bu (c := #[.slice a k k, .int .i64 (min (f.sure : Int) k)]) (by kernel_rfl) ?_
        refine mup (ke := keS) (k := n) 1 rfl undM keyM ?_
        refine bk ?_
        have em : min (f.sure : Int) (k : Int) = ((min f.sure k : Nat) : Int) := by omega
        rw [em]
        exact ⟨fun w1 hs => TurnR.done h hs _ _ _ h0 rfl rfl ((h.f.same (dk_old h hs)).set ⟨n, f.bs.take k, min f.sure k⟩ _ (hc w1 (dk_old h hs) (by omega)).1 (by simp only [List.length_take]; omega) (by simp only [List.length_take]; omega) hzn) rfl⟩
end Go.Proofs.Ytdgkaboaapfnmaa
