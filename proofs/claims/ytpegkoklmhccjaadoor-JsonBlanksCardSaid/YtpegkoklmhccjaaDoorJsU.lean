/- Chapter 12: an object's names. -/
import Derived.Test.YtpegkoklmhccjaaDoorJsT
namespace Go.Proofs.YtpegkoklmhccjaaDoor
open Go.RowKit Go.Sx
set_option linter.unusedVariables false
/-- pairs that are read where they lie -/
structure PairsAt (w : World) (A : Nat → Prop) (p : List (Bs × JV)) (e : Nat → List Value) (vp : Value) : Prop where
  lt : ∀ k, A k → k < w.heap.size
  row : RowAt w A 6 p.length (pcl p e) vp
  vs : ∀ n q, p[n]? = some q → Rv w A q.2 (e n)
theorem PairsAt.to {w w' : World} {A : Nat → Prop} {p : List (Bs × JV)} {e : Nat → List Value} {vp : Value} (h : PairsAt w A p e vp) (hw : ∀ k, A k → w'.heap[k]? = w.heap[k]?) : PairsAt w' A p e vp :=
  ⟨fun k hk => by
      have e := hw k hk
      rw [Array.getElem?_eq_getElem (h.lt k hk)] at e
      exact (Array.getElem?_eq_some_iff.1 e).1, h.row.to (fun _ h => h) hw, fun n q hq => (h.vs n q hq).to (fun _ h => h) hw⟩
def prsR (A : Nat → Prop) (p : List (Bs × JV)) (e : Nat → List Value) (vp : Value) : Res where
  w := fun _ => False
  r := A
  p := fun w => PairsAt w A p e vp
  st := fun u v h hp => hp.to fun k hk => h k (.inr hk)
  bd := fun u h k hk => by
    rcases hk with hk | hk
    · exact hk.elim
    · exact h.lt k hk
def nmH (b1 : Nat) (A : Nat → Prop) (k i : Int) (s : Bs) (vl vp : Value) (p : List (Bs × JV)) (e : Nat → List Value) : Res where
  w := fun _ => False
  r := fun x => x = b1 ∨ A x
  p := fun u => u.heap[b1]? = some (.cells (vcl k i s vl vp).toArray TV (0, 0)) ∧ PairsAt u A p e vp
  st := fun u v h ⟨h1, h2⟩ => ⟨(h b1 (.inr (.inl rfl))).trans h1, h2.to fun k hk => h k (.inr (.inr hk))⟩
  bd := fun u ⟨h1, h2⟩ k hk => by
    rcases hk with hk | rfl | hk
    · exact hk.elim
    · exact (Array.getElem?_eq_some_iff.1 h1).1
    · exact h2.lt k hk
/-- a round of Names -/
def nmNx (k : Int) (p : List (Bs × JV)) (e : Nat → List Value) (n : Nat) (args : List Value) (m : Nat) : Prop := k = 5 ∧ (∃ q, p[n]? = some q ∧ args = [sj q.1, .agg (e n).toArray]) ∧ m = n + 1
set_option maxRecDepth 100000 in
theorem names_itr (b1 : Nat) (A : Nat → Prop) (k i : Int) (s : Bs) (vl vp : Value) (p : List (Bs × JV)) (e : Nat → List Value) :
    Itr Tryd.prog 25 [pj b1] 0 (nmNx k p e) (fun n => k = 5 → p.length ≤ n) (nmH b1 A k i s vl vp p e) := by
  refine ⟨fun l α β R S W x0 hR hH hd hround => ?_⟩
  obtain ⟨hb1, hP⟩ := id hH
  have hst : St [fun k => (R 0 x0).w k] W W [rs (R 0 x0), cr b1 (vcl k i s vl vp).toArray TV, rs (prsR A p e vp)] := by
    refine St.from W _ _ (fun y hy => ?_) ?_
    · simp only [List.mem_cons, List.not_mem_nil, or_false] at hy
      rcases hy with rfl | rfl | rfl
      · exact ⟨by simpa using hR, fun k hk => by simpa using hk⟩
      · exact ⟨by simpa using hb1, fun k hk => by simp at hk⟩
      · exact ⟨(rsOk _ _).2 hP, fun k hk => ((rsW _ _).1 hk).elim⟩
    · refine .cons (fun y hy => ?_) (.cons (fun y hy => ?_) (by simp))
      · simp only [List.mem_cons, List.not_mem_nil, or_false] at hy
        rcases hy with rfl | rfl
        · exact fun k => ⟨fun h1 h2 => by simp at h1 h2; subst h2; exact hd _ (.inr (.inl rfl)) h1, fun h1 => by simp at h1⟩
        · exact fun k => ⟨fun h1 h2 => by
            rcases (rsA _ _).1 h2 with h2 | h2
            · exact h2.elim
            · exact hd k (.inr (.inr h2)) (by simpa using h1), fun h1 => ((rsW _ _).1 h1).elim⟩
      · obtain rfl : y = rs (prsR A p e vp) := by simpa using hy
        exact fun k => ⟨fun h1 => by simp at h1, fun h1 => ((rsW _ _).1 h1).elim⟩
  refine (enter tab_ok Tryd.func25 rfl Tryd.ntmps25 rfl hst (R := fun v w' => (∃ i y, (k = 5 → p.length ≤ i) ∧ Turns W w' (R 0 x0) (R i y)) ∨ ∃ y, Turns W w' (R 0 x0) (S y)) ?_).mono (fun e w' ⟨v, he, h⟩ => ⟨⟨v, he⟩, h⟩)
  have fin' : ∀ (r : Res) (L : List Ent) (w' : World), St [fun k => (R 0 x0).w k] W w' L → L[0]? = some (rs r) → (∀ k, r.A k → (R 0 x0).A k ∨ W.heap.size ≤ k) → Turns W w' (R 0 x0) r := by
    intro r L w' hs h0 hA
    refine Turns.of_st hs (fun k hk => by simpa using hk) (hs.res h0) (fun k hk => ?_) hA
    rcases hs.ownW _ (List.mem_of_getElem? h0) k (by simpa using hk) with h | h
    · exact .inr h
    · exact .inl (by simpa using h)
  obtain ⟨hpm, a, cap, rfl, hrow⟩ := hP.row
  refine ld1 1 rfl (v := .int .i64 k) rfl ?_
  refine cne (fun h5 => ?_) (fun h5 => ?_)
  · exact ⟨fun w1 hs => .inl ⟨0, x0, fun h => absurd h h5, fin' _ _ _ hs rfl fun k hk => .inl hk⟩⟩
  subst h5
  refine ld1 1 rfl rfl ?_
  refine lp tab_ok (fun x : Nat × α => x.1 ≤ p.length ∧ ∀ k, (R x.1 x.2).A k → (R 0 x0).A k ∨ W.heap.size ≤ k)
    (fun x => ⟨[(0, .func (.yield l) #[] #[]), (9, .slice a p.length cap), (10, .int .i64 p.length), (11, .int .i64 x.1)], [rs (R x.1 x.2), cr b1 (vcl 5 i s vl (.slice a p.length cap)).toArray TV, rs (prsR A p e (.slice a p.length cap))], []⟩) (fun x => p.length - x.1) (0, x0) ⟨Nat.zero_le _, fun k hk => .inl hk⟩
    ⟨⟨rfl, rfl, rfl, rfl, trivial⟩, .cons (.cons (.cons .nil)), rfl⟩ ?_
  rintro ⟨n, x⟩ ⟨hn, hA⟩
  simp only at hn hA
  refine cd (fun h => ?_) (fun h => ?_)
  · have hlt : n < p.length := by omega
    obtain ⟨b, o, rfl, hbA, _⟩ := hrow (by omega)
    refine ⟨by omega, by omega, ?_⟩
    obtain ⟨q, hq⟩ : ∃ q, p[n]? = some q := ⟨_, List.getElem?_eq_getElem hlt⟩
    have hen := (hP.vs n q hq).len
    have heo := (hP.vs n q hq).one
    have hpc : pcl p e n = sj q.1 :: e n := by unfold pcl; rw [hq]; rfl
    have hrd : ∀ w, PairsAt w A p e (.slice (some ⟨b, o, none⟩) p.length cap) → w.rangeAt b (o + n * 6) (sj q.1 :: e n) := fun w h => by
      obtain ⟨_, a', cap', he, hr⟩ := h.row
      injection he with he1 he2 he3
      obtain ⟨b', o', he4, _, hr⟩ := hr (by omega)
      rw [← he1] at he4
      injection he4 with he4
      injection he4 with he5 he6
      subst he5 he6
      rw [← hpc]; exact (hr n hlt).2
    obtain ⟨c0, c1, c2, c3, c4, hc⟩ : ∃ c0 c1 c2 c3 c4, e n = [c0, c1, c2, c3, c4] := by
      match e n, hen with
      | [c0, c1, c2, c3, c4], _ => exact ⟨c0, c1, c2, c3, c4, rfl⟩
    rw [hc] at heo
    refine .mk #[sj q.1, c0, c1, c2, c3, c4] rfl (fun w hs => ?_) ?_
    · have := hrd w (hs.res (k := 2) rfl)
      rw [hc] at this
      rw [nad_eq, nmu_eq, Int.toNat_natCast]; exact this
    intro b4
    have ho6 : (#[sj q.1, c0, c1, c2, c3, c4] : Array Value).toList.all (·.oneCell') = true := by rw [show (#[sj q.1, c0, c1, c2, c3, c4] : Array Value).toList = sj q.1 :: [c0, c1, c2, c3, c4] from rfl, List.all_cons, heo]; rfl
    refine sN 3 rfl rfl ho6 ?_ (by kernel_rfl)
    refine ld1 3 rfl rfl ?_
    refine ldP 3 (d := #[c0, c1, c2, c3, c4]) rfl rfl rfl ?_
    refine yd (α := α) (β := β) (R := R) (S := S) (nx := nmNx 5 p e) (i := n) (j := n + 1) (x := x) 0 rfl hround ⟨rfl, ⟨q, hq, by rw [hc]; rfl⟩, rfl⟩ (fun y hA2 => ?_) (fun y hA2 => ?_)
    · refine cf rfl ?_
      refine .as ((n + 1 : Nat) : Int) (by simp only; omega) (by simp only [mn]; omega) (by simp only [mx]; unfold maxLen at hpm; omega) ?_
      refine ⟨(n + 1, y), ⟨by simp only; omega, fun k hk => ?_⟩, by simp only; omega, ⟨⟨rfl, rfl, rfl, rfl, trivial⟩, .cons (.cons (.cons .nil)), rfl⟩⟩
      rcases hA2 k hk with h | h
      · exact hA k h
      · exact .inr h
    · refine ct rfl ?_
      refine ⟨fun w1 hs => .inr ⟨y, fin' _ _ _ hs rfl fun k hk => ?_⟩⟩
      rcases hA2 k hk with h | h
      · exact hA k h
      · exact .inr h
  · refine ⟨fun w1 hs => .inl ⟨n, x, fun _ => by omega, fin' _ _ _ hs rfl hA⟩⟩
end Go.Proofs.YtpegkoklmhccjaaDoor
