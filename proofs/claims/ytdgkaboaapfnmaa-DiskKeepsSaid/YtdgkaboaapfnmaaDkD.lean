/- The disk: how many bytes it has: a range over a map's values. -/
import Derived.Test.YtdgkaboaapfnmaaDkC
namespace Go.Proofs.Ytdgkaboaapfnmaa
open Go.RowKit Go.Sx
set_option linter.unusedVariables false

/-- a round: one of the entries that are left -/
def vNx {κ : Type} (es : Es κ) (i : Es κ) (args : List Value) (j : Es κ) : Prop := ∃ e rest, args = [e.2.1] ∧ j = i ++ [e] ∧ (i ++ [e] ++ rest).Perm es
theorem perm_more {κ : Type} {es i rest : Es κ} {e : κ × Value × Nat} (hp : (i ++ rest).Perm es) (he : e ∈ es) (hn : e.2.2 ∉ i.map (·.2.2)) : ∃ rest', (i ++ [e] ++ rest').Perm es := by
  have h1 : e ∈ i ++ rest := hp.mem_iff.2 he
  rcases List.mem_append.1 h1 with h | h
  · exact absurd (List.mem_map_of_mem h) hn
  · obtain ⟨l1, l2, rfl⟩ := List.append_of_mem h
    refine ⟨l1 ++ l2, List.Perm.trans ?_ hp⟩
    rw [List.append_assoc]
    exact (List.perm_middle (a := e) (l₁ := l1) (l₂ := l2)).symm.append_left i
theorem perm_done {κ : Type} {es i rest : Es κ} (hp : (i ++ rest).Perm es) (hn : (es.map (·.2.2)).Nodup) (hall : ∀ e ∈ es, e.2.2 ∈ i.map (·.2.2)) : i.Perm es := by
  cases rest with
  | nil => simpa using hp
  | cons e l =>
    exfalso
    have h1 : ((i ++ e :: l).map (·.2.2)).Nodup := (hp.map _).nodup_iff.2 hn
    rw [List.map_append, List.nodup_append] at h1
    exact h1.2.2 _ (hall e (hp.mem_iff.1 (by simp))) e.2.2 (by simp) rfl
/-- what the function that is ranged over reads -/
def boxH (b1 bm : Nat) (es : Es (List UInt8)) (clk : Nat) : Res where
  w _ := False
  r k := k = b1 ∨ k = bm
  p u := u.heap[b1]? = some (.cells #[.map (some bm)] TM (0, 0)) ∧ u.heap[bm]? = some (mapO keS es clk)
  st u v h := fun ⟨h1, h2⟩ => ⟨(h _ (.inr (.inl rfl))).trans h1, (h _ (.inr (.inr rfl))).trans h2⟩
  bd u := fun ⟨h1, h2⟩ k hk => by
    rcases hk with hk | rfl | rfl
    · exact hk.elim
    · exact (Array.getElem?_eq_some_iff.1 h1).1
    · exact (Array.getElem?_eq_some_iff.1 h2).1
set_option maxRecDepth 100000 in
theorem values_itr (b1 bm : Nat) (es : Es (List UInt8)) (clk : Nat) (hnb : (es.map (·.2.2)).Nodup) (hlt : ∀ e ∈ es, e.2.2 < clk) (hv : ∀ e ∈ es, ∃ a l c k, e.2.1 = .agg #[.slice a l c, .int .i64 k]) :
    Itr Try.prog 58 [ptr b1] ([] : Es (List UInt8)) (vNx es) (fun i => i.Perm es) (boxH b1 bm es clk) := by
  refine ⟨fun l α β R S W x0 hR hH hd hround => ?_⟩
  have hst : St [fun k => (R [] x0).w k] W W [rs (R [] x0), ⟨b1, some (.cells #[.map (some bm)] TM (0, 0)), true, none⟩, mr bm es clk] := by
    refine St.from W _ _ (fun e he => ?_) ?_
    · simp only [List.mem_cons, List.not_mem_nil, or_false] at he
      rcases he with rfl | rfl | rfl
      · exact ⟨by simpa using hR, fun k hk => by simpa using hk⟩
      · exact ⟨by simpa using hH.1, fun k hk => by simp at hk⟩
      · exact ⟨by simpa using hH.2, fun k hk => by simp at hk⟩
    · refine .cons (fun y hy => ?_) (.cons (fun y hy => ?_) (by simp))
      · simp only [List.mem_cons, List.not_mem_nil, or_false] at hy
        rcases hy with rfl | rfl
        · exact fun k => ⟨fun h1 h2 => by simp at h1 h2; subst h2; exact hd _ (.inr (.inl rfl)) h1, fun h1 => by simp at h1⟩
        · exact fun k => ⟨fun h1 h2 => by simp at h1 h2; subst h2; exact hd _ (.inr (.inr rfl)) h1, fun h1 => by simp at h1⟩
      · obtain rfl : y = mr bm es clk := by simpa using hy
        exact fun k => ⟨fun h1 => by simp at h1, fun h1 => by simp at h1⟩
  refine (enter tab_ok Try.func58 rfl Try.ntmps58 rfl hst (R := fun v w' => (∃ i y, i.Perm es ∧ Turns W w' (R [] x0) (R i y)) ∨ ∃ y, Turns W w' (R [] x0) (S y)) ?_).mono (fun e w' ⟨v, he, h⟩ => ⟨⟨v, he⟩, h⟩)
  have fin' : ∀ (r : Res) (L : List Ent) (w' : World), St [fun k => (R [] x0).w k] W w' L → L[0]? = some (rs r) → (∀ k, r.A k → (R [] x0).A k ∨ W.heap.size ≤ k) → Turns W w' (R [] x0) r := by
    intro r L w' hs h0 hA
    refine Turns.of_st hs (fun k hk => by simpa using hk) (hs.res h0) (fun k hk => ?_) hA
    rcases hs.ownW _ (List.mem_of_getElem? h0) k (by simpa using hk) with h | h
    · exact .inr h
    · exact .inl (by simpa using h)
  refine ld1 1 rfl (v := .map (some bm)) rfl ?_
  refine rng 2 rfl undM (fun it => ?_)
  refine lp tab_ok (fun x : Es (List UInt8) × α => (∃ rest, (x.1 ++ rest).Perm es) ∧ ∀ k, (R x.1 x.2).A k → (R [] x0).A k ∨ W.heap.size ≤ k)
    (fun x => ⟨[(0, .func (.yield l) #[] #[]), (6, ptr it)], [rs (R x.1 x.2), ⟨b1, some (.cells #[.map (some bm)] TM (0, 0)), true, none⟩, mr bm es clk, itE it bm clk (x.1.map (·.2.2))], []⟩) (fun x => es.length - x.1.length) ([], x0) ⟨⟨es, by simp⟩, fun k hk => .inl hk⟩
    ⟨⟨rfl, rfl, trivial⟩, .cons (.cons (.cons (.cons .nil))), rfl⟩ ?_
  rintro ⟨i, x⟩ ⟨⟨rest, hp⟩, hA⟩
  simp only at hp hA
  refine nxt 2 3 rfl rfl hlt (fun hall => ?_) (fun e he hn => ?_)
  · refine cf rfl ?_
    exact ⟨fun w1 hs => .inl ⟨i, x, perm_done hp hnb hall, fin' _ _ _ hs rfl hA⟩⟩
  · refine ct rfl ?_
    refine ent (e := e) 2 3 rfl rfl he hnb ?_
    obtain ⟨a, ln, c, k, hve⟩ := hv e he
    obtain ⟨rest', hp'⟩ := perm_more hp he hn
    rw [hve]
    intro b4
    refine sN 4 rfl rfl rfl ?_ (by kernel_rfl)
    refine ldN 4 rfl rfl ?_
    have hlen : (i ++ [e]).length ≤ es.length := by have := hp'.length_eq; simp at this ⊢; omega
    refine yd (α := α) (β := β) (R := R) (S := S) (nx := vNx es) (i := i) (j := i ++ [e]) (x := x) 0 rfl hround ⟨e, rest', by rw [hve]; rfl, rfl, hp'⟩ (fun y hA2 => ?_) (fun y hA2 => ?_)
    · refine cf rfl ?_
      refine ⟨(i ++ [e], y), ⟨⟨rest', hp'⟩, fun k hk => ?_⟩, by simp at hlen ⊢; omega, ⟨⟨rfl, rfl, trivial⟩, ?_, rfl⟩⟩
      · rcases hA2 k hk with h | h
        · exact hA k h
        · exact .inr h
      · simp only [List.map_append, List.map_cons, List.map_nil]
        exact .cons (.cons (.cons (.cons .nil)))
    · refine ct rfl ?_
      refine ⟨fun w1 hs => .inr ⟨y, fin' _ _ _ hs rfl fun k hk => ?_⟩⟩
      rcases hA2 k hk with h | h
      · exact hA k h
      · exact .inr h
def lenS : Value → Nat
  | .slice _ l _ => l
  | _ => 0
def lenV : Value → Nat
  | .agg c => lenS (c.getD 0 undef)
  | _ => 0
def sumE {κ : Type} (i : Es κ) : Nat := (i.map fun e => lenV e.2.1).sum
def usedD (fs : List Fe) : Nat := (fs.map fun f => f.bs.length).sum
theorem sum_used {rr : Nat → Prop} {u : World} {es : Es (List UInt8)} {fs : List Fe} (h : All2 (EF rr u) es fs) : sumE es = usedD fs := by
  unfold sumE usedD
  induction h with
  | nil => rfl
  | cons h1 _ ih =>
    obtain ⟨_, v, h2, a, c, rfl, _⟩ := h1
    simp only [List.map_cons, List.sum_cons, ih, h2]
    simp [lenV, lenS, Lib.byteCells_length]
theorem es_shape {rr : Nat → Prop} {u : World} {es : Es (List UInt8)} {fs : List Fe} (h : All2 (EF rr u) es fs) : ∀ e ∈ es, ∃ a l c k, e.2.1 = .agg #[.slice a l c, .int .i64 k] := by
  intro e he
  obtain ⟨f, _, h1, v, h2, a, c, rfl, _⟩ := h.memL he
  exact ⟨a, _, c, _, h2⟩
theorem sum_perm {κ : Type} {i j : Es κ} (h : i.Perm j) : sumE i = sumE j := (h.map _).sum_nat
theorem sum_app {κ : Type} (i j : Es κ) : sumE (i ++ j) = sumE i + sumE j := by simp [sumE]
set_option maxRecDepth 100000 in
theorem used_any (S : DkS) (w : World) (h : DkP S w) (hu : usedD S.D.files ≤ 1000000000000) : Calls Try.prog 14 ([ptr S.bd] : List Value).toArray w fun e w' => e = .returned (.int .i64 (usedD S.D.files)) ∧ Below w.heap.size w w' := by
  have hsum := sum_used h.f.all
  have hshape := es_shape h.f.all
  refine enterV tab_ok Try.func14 rfl Try.ntmps14 rfl (dk_ro h) ?_
  intro b3
  refine s1 2 rfl (show 0 < 1 by decide) ?_
  refine ct rfl ?_
  refine ld1 0 rfl (v := .map (some S.bm)) rfl ?_
  refine inl (C := ⟨Try.prog, tab, 19, [], w, none⟩) tab_ok Try.func31 rfl Try.ntmps31 rfl ?_
  intro b1
  refine bk ?_
  refine rf (C := ⟨Try.prog, tab, 19, [], w, none⟩) (α := Unit) (β := Empty) tab_ok rfl rfl rfl (values_itr b1 S.bm S.es S.clk h.f.nb h.f.lt hshape) 2 (fun i _ => cl b3 #[.int .i64 (sumE i)] 3) (fun y => y.elim) (fun y => y.elim) () rfl
    (fun w' hs => ⟨⟨hs.nth (k := 3) rfl, hs.nth (k := 1) rfl⟩, ?_⟩) ?_ ?_ ?_ (fun y => y.elim)
  · rintro b (hb | rfl | rfl) hw
    · exact hb.elim
    · exact (pw_ne hs.apart (i := 2) (j := 3) rfl rfl (by decide) _).1 hw (by simp)
    · exact (pw_ne hs.apart (i := 2) (j := 1) rfl rfl (by decide) _).1 hw (by simp)
  · rintro i args j ⟨e, rest, rfl, _⟩; rfl
  · rintro l i args j x w' ready busy ⟨e, rest, rfl, rfl, hp⟩
    have he : e ∈ S.es := hp.mem_iff.1 (by simp)
    obtain ⟨a, ln, c, k, hve⟩ := hshape e he
    have hs1 : sumE (i ++ [e]) = sumE i + ln := by rw [sum_app]; simp [sumE, hve, lenV, lenS]
    have hs2 : sumE (i ++ [e]) ≤ usedD S.D.files := by rw [← hsum, ← sum_perm hp, sum_app (i ++ [e]) rest]; omega
    rw [hve]
    intro b4
    refine sN 5 rfl rfl rfl ?_ (by kernel_rfl)
    refine ⟨rfl, ?_⟩
    refine ld1 2 rfl rfl ?_
    refine ld1 5 rfl (v := .slice a ln c) rfl ?_
    refine .as ((sumE (i ++ [e]) : Nat) : Int) (by rw [hs1]; simp) (by simp only [mn]; omega) (by simp only [mx]; omega) ?_
    refine s1 2 rfl (show 0 < 1 by decide) ?_
    exact ⟨(), .drop (.drop (.cons (.drop (.cons .nil)))), fun b hb => .inl (by simpa using hb)⟩
  · intro i y b0 hp
    refine ld1 2 rfl rfl ?_
    refine .mk 4 rfl ?_
    refine rt ?_
    show Value.int .i64 (sumE i) = _
    rw [sum_perm hp, hsum]
set_option maxRecDepth 100000 in
theorem free_any (S : DkS) (w : World) (h : DkP S w) (hu : usedD S.D.files ≤ 1000000000000) (hq : S.D.quota ≤ 16777216) : Calls Try.prog 30 ([ptr S.bd] : List Value).toArray w fun e w' => e = .returned (.int .i64 ((S.D.quota : Int) - usedD S.D.files)) ∧ Below w.heap.size w w' := by
  have hh := fun w' (hs : Below w.heap.size w w') => used_any S w' ((dkR S).st w w' (fun k hk => hs.block k ((dkR S).bd w h k hk)) h) hu
  refine enterV tab_ok Try.func30 rfl Try.ntmps30 rfl (dk_ro h) ?_
  refine cf rfl ?_
  refine dr [cr S.bd (dkC S.D S.bm) TD, mr S.bm S.es S.clk] 99 (.t 0 (.t 1 (.t 2 (.t 3 (.t 4 (.t 5 (.t 6 (.t 7 .nil)))))))) tab_ok mixed_ok (by kernel_rfl) (.cons (.cons .nil)) ?_
  refine ld1 0 rfl (v := .int .i64 S.D.quota) rfl ?_
  refine czs (fun w' hs => hh w' hs.below) ?_
  refine .same (by simp only [mn]; omega) (by simp only [mx]; omega) ?_
  exact rt rfl
end Go.Proofs.Ytdgkaboaapfnmaa
