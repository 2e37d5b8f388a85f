/- Chapter 12: the value of a name. -/
import Derived.Test.YtpegkoklmhccjaaDoorJsV
import Derived.Test.YtpegkoklmhccjaaDoorSxU
namespace Go.Proofs.YtpegkoklmhccjaaDoor
open Go.RowKit Go.Sx
set_option linter.unusedVariables false
def CT.got : CT → Bs → Option CT
  | .mk k _ _ _ _ _ p, name => if k = 5 then (p.find? fun q => decide (q.1 = name)).map (·.2) else none
theorem CT.cs5 (c : CT) : c.cs.length = 5 := by cases c; rfl
def getV (o : Option CT) : Value := match o with
  | none => .tuple #[.agg (valC 0 0 []), .bool false]
  | some c => .tuple #[.agg c.cs.toArray, .bool true]
def eth (p : List (Bs × CT)) (n : Nat) : List Value := ((p[n]?).map fun q => CT.cs q.2).getD []
theorem Rt.pairs {w : World} {A : Nat → Prop} {k i : Int} {s : Bs} {vl vp : Value} {l : List CT} {p : List (Bs × CT)} {l' : List JV} {p' : List (Bs × JV)} (hA : ∀ k, A k → k < w.heap.size) (h : Rt w A (.mk k i s vl vp l p) (.mk k i s l' p')) : PairsAt w A p' (eth p) vp ∧ p.length = p'.length ∧ ∀ (n : Nat) (c : Bs × CT) (q : Bs × JV), p[n]? = some c → p'[n]? = some q → c.1 = q.1 := by
  cases h with
  | mk ll lp hl hp kl kn kp =>
    refine ⟨⟨hA, lp ▸ hp.ext fun n hn => ?_, fun n q hq => ?_⟩, lp, kn⟩
    · have h1 : p[n]? = some p[n] := List.getElem?_eq_getElem hn
      have h2 : p'[n]? = some (p'[n]'(by omega)) := List.getElem?_eq_getElem (by omega)
      unfold pcl CT.pth eth
      rw [h1, h2]
      simp [kn n _ _ h1 h2]
    · have hn : n < p.length := by have := (List.getElem?_eq_some_iff.1 hq).1; omega
      have h1 : p[n]? = some p[n] := List.getElem?_eq_getElem hn
      have := (kp n _ q h1 hq).rv
      unfold eth
      rw [h1]; exact this
theorem find_none {p : List (Bs × CT)} {name : Bs} (h : ∀ m, m < p.length → ∀ q, p[m]? = some q → q.1 ≠ name) : p.find? (fun q => decide (q.1 = name)) = none := by
  rw [List.find?_eq_none]
  intro x hx
  obtain ⟨m, h1, h2⟩ := List.mem_iff_getElem.1 hx
  have := h m h1 x (by rw [List.getElem?_eq_getElem h1, h2])
  simpa using this
theorem find_first {p : List (Bs × CT)} {name : Bs} {i : Nat} {q : Bs × CT} (hq : p[i]? = some q) (hn : q.1 = name) (h : ∀ m, m < i → ∀ q, p[m]? = some q → q.1 ≠ name) : p.find? (fun q => decide (q.1 = name)) = some q := by
  obtain ⟨h1, h2⟩ := List.getElem?_eq_some_iff.1 hq
  rw [List.find?_eq_some_iff_getElem]
  refine ⟨by simpa using hn, i, h1, h2, fun m hm => ?_⟩
  have := h m hm _ (List.getElem?_eq_getElem (by omega))
  simpa using this
set_option maxRecDepth 100000 in
set_option maxHeartbeats 4000000 in
theorem get_any (A : Nat → Prop) (c : CT) (j : JV) (name : Bs) (w : World) (h : HeldT w A c j) : Calls Tryd.prog 10 ([.agg c.cs.toArray, sj name] : List Value).toArray w fun e w' => e = .returned (getV (c.got name)) ∧ Below w.heap.size w w' := by
  obtain ⟨k, iv, s, vl, vp, lv, p⟩ := c
  obtain ⟨l', p', rfl⟩ : ∃ l' p', j = .mk k iv s l' p' := by cases h.2; exact ⟨_, _, rfl⟩
  obtain ⟨hPA, hlen, hnm⟩ := Rt.pairs h.1 h.2
  have hone : (vcl k iv s vl vp).all (·.oneCell') = true := h.2.rv.one
  have hst : St [] w w [rs (rdT A (.mk k iv s vl vp lv p) (.mk k iv s l' p'))] := St.reads fun e he => by
    obtain rfl : e = _ := by simpa using he
    exact ⟨(rsOk _ w).2 h, fun k hk => (rsW _ k).1 hk⟩
  refine enterV tab_ok Tryd.func10 rfl Tryd.ntmps10 rfl hst ?_
  intro b2 b3 b4 b5
  refine ldN 1 rfl rfl ?_
  refine inl (C := ⟨Tryd.prog, tab, 17, [], w, none⟩) tab_ok Tryd.func13 rfl Tryd.ntmps13 rfl ?_
  intro b6
  refine bk ?_
  refine rfi (C := ⟨Tryd.prog, tab, 17, [], w, none⟩) (L0 := [rs (rdT A (.mk k iv s vl vp lv p) (.mk k iv s l' p')), cl b2 (vcl k iv s vl vp).toArray TV, cl b3 #[sj name] 9, cl b6 (vcl k iv s vl vp).toArray TV]) (α := Unit) (β := { c' : CT // (CT.mk k iv s vl vp lv p).got name = some c' }) tab_ok rfl rfl rfl
    (names_itr b6 A k iv s vl vp p' (eth p)) (fun i _ => ∀ m, m < i → ∀ q, p[m]? = some q → q.1 ≠ name) (fun _ _ => [cl b4 (valC 0 0 []) TV, cl b5 #[.bool false] 4]) (fun y => ([cl b4 y.1.cs.toArray TV, cl b5 #[.bool true] 4], .ret)) (fun y => .inl rfl) () (fun m hm => absurd hm (Nat.not_lt_zero _)) ?_
    (fun w' hs => ⟨⟨hs.nth (k := 3) rfl, (Rt.pairs (hs.res (k := 0) rfl : HeldT w' A _ _).1 (hs.res (k := 0) rfl : HeldT w' A _ _).2).1⟩, ?_⟩) ?_ ?_ ?_ ?_
  · have e1 : List.Perm ([rs (rdT A (.mk k iv s vl vp lv p) (.mk k iv s l' p')), cl b2 (vcl k iv s vl vp).toArray TV, cl b3 #[sj name] 9] ++ ([cl b6 (vcl k iv s vl vp).toArray TV] ++ [cl b4 (valC 0 0 []) TV, cl b5 #[.bool false] 4])) ([rs (rdT A (.mk k iv s vl vp lv p) (.mk k iv s l' p')), cl b2 (vcl k iv s vl vp).toArray TV, cl b3 #[sj name] 9] ++ ([cl b4 (valC 0 0 []) TV, cl b5 #[.bool false] 4] ++ [cl b6 (vcl k iv s vl vp).toArray TV])) := .append_left _ List.perm_append_comm
    exact List.Perm.trans (.of_eq rfl) (List.Perm.trans e1 (.of_eq rfl))
  · rintro x (hx | hx | hx) e he hw
    · exact hx.elim
    · subst hx
      simp only [List.mem_cons, List.not_mem_nil, or_false] at he
      rcases he with rfl | rfl
      · exact (pw_ne hs.apart (i := 4) (j := 3) rfl rfl (by decide) _).1 hw (by simp)
      · exact (pw_ne hs.apart (i := 5) (j := 3) rfl rfl (by decide) _).1 hw (by simp)
    · simp only [List.mem_cons, List.not_mem_nil, or_false] at he
      have hx2 : (rs (rdT A (.mk k iv s vl vp lv p) (.mk k iv s l' p'))).A x := (rsA _ x).2 (.inr hx)
      rcases he with rfl | rfl
      · exact (pw_ne hs.apart (i := 4) (j := 0) rfl rfl (by decide) _).1 hw hx2
      · exact (pw_ne hs.apart (i := 5) (j := 0) rfl rfl (by decide) _).1 hw hx2
  · rintro i args j ⟨_, ⟨q, _, rfl⟩, _⟩; rfl
  · rintro l i args j x w' ready busy ⟨hk5, ⟨q, hq, rfl⟩, rfl⟩ hI
    have hn : i < p.length := by have := (List.getElem?_eq_some_iff.1 hq).1; omega
    obtain ⟨c0, hc0⟩ : ∃ c0, p[i]? = some c0 := ⟨_, List.getElem?_eq_getElem hn⟩
    have hq1 := hnm i c0 q hc0 hq
    have hv5 := (hPA.vs i q hq).len
    have hv1 := (hPA.vs i q hq).one
    have heth : eth p i = c0.2.cs := by unfold eth; rw [hc0]; rfl
    rw [heth] at hv5 hv1 ⊢
    intro b7
    refine sN 7 rfl (by rw [List.size_toArray, hv5]; rfl) (by simpa using hv1) ?_ (by rw [List.size_toArray, hv5]; kernel_rfl)
    refine ⟨rfl, ?_⟩
    refine ld1 2 rfl (v := sj name) rfl ?_
    by_cases hnq : q.1 = name
    · refine ct (by rw [list_beq]; exact decide_eq_true hnq) ?_
      refine ldN 7 rfl (by rw [List.size_toArray, hv5]) ?_
      refine sN 4 rfl (by rw [List.size_toArray, hv5]; rfl) (by simpa using hv1) ?_ (by rw [List.size_toArray, hv5]; kernel_rfl)
      refine s1 5 rfl (by show 0 < 1; decide) ?_
      have hgot : (CT.mk k iv s vl vp lv p).got name = some c0.2 := by
        show (if k = 5 then (p.find? fun q => decide (q.1 = name)).map (·.2) else none) = _
        rw [if_pos hk5, find_first hc0 (hq1.trans hnq) hI]; rfl
      exact ⟨⟨c0.2, hgot⟩, rfl, .drop (.drop (.drop (.drop (.cons (.cons (.cons .nil)))))), fun e he b hb => by
        simp only [List.mem_cons, List.not_mem_nil, or_false] at he
        rcases he with rfl | rfl
        · exact .inl ⟨cl b4 (valC 0 0 []) TV, by simp, by simpa using hb⟩
        · exact .inl ⟨cl b5 #[.bool false] 4, by simp, by simpa using hb⟩⟩
    · refine cf (by rw [list_beq]; exact decide_eq_false hnq) ?_
      refine ⟨(), fun m hm q' hq' => ?_, .drop (.drop (.drop (.drop (.cons (.cons (.cons .nil)))))), fun e he b hb => .inl ⟨e, he, hb⟩⟩
      by_cases hmi : m < i
      · exact hI m hmi q' hq'
      · obtain rfl : m = i := by omega
        rw [hc0] at hq'
        obtain rfl : c0 = q' := Option.some.inj hq'
        rw [hq1]; exact hnq
  · intro i y b0 hf hI
    have hgot : (CT.mk k iv s vl vp lv p).got name = none := by
      show (if k = 5 then (p.find? fun q => decide (q.1 = name)).map (·.2) else none) = _
      by_cases h5 : k = 5
      · have := hf h5
        rw [if_pos h5, find_none fun m hm => hI m (by omega)]; rfl
      · rw [if_neg h5]
    rw [hgot]
    refine bu (c := valC 0 0 []) rfl ?_
    refine sN 4 rfl rfl (by simp [Value.oneCell']) ?_ (by kernel_rfl)
    refine s1 5 rfl (by show 0 < 1; decide) ?_
    refine .mk 6 rfl ?_
    refine ldN 4 rfl rfl ?_
    refine ld1 5 rfl rfl ?_
    exact rt rfl
  · rintro ⟨c', hgot⟩ b0
    refine .mk 6 rfl ?_
    refine ldN 4 rfl (by rw [List.size_toArray, CT.cs5]) ?_
    refine ld1 5 rfl rfl ?_
    exact rt (congrArg getV hgot.symm : getV (some c') = _)
end Go.Proofs.YtpegkoklmhccjaaDoor
