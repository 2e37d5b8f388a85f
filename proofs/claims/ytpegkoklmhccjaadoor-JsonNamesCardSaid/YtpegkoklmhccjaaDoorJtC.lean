/- Chapter 12: the law JsonNames (under way). -/
import Derived.Test.YtpegkoklmhccjaaDoorJtB
namespace Go.Proofs.YtpegkoklmhccjaaDoor
open Go.RowKit Go.Sx
set_option linter.unusedVariables false
theorem St.rdLT {w : World} {A : Nat → Prop} {c : CT} {j : JV} (h : HeldT w A c j) (hw : Laid w) : St [] w w [rs laidR, rs (Go.Proofs.YtpegkoklmhccjaaDoor.rdT A c j)] := St.reads fun e he => by
  simp only [List.mem_cons, List.not_mem_nil, or_false] at he
  rcases he with rfl | rfl
  · exact ⟨(rsOk _ w).2 hw, fun k hk => (rsW _ k).1 hk⟩
  · exact ⟨(rsOk _ w).2 h, fun k hk => (rsW _ k).1 hk⟩
theorem _root_.Go.Sx.St.resd {M : Bks} {B w : World} {L : List Ent} (h : St M B w L) {k : Nat} {r : Res} (hk : L[k]? = some (rs r).rd) : r.p w := (rsOk r w).1 ((Ent.rdOk _ _).1 (h.ok _ (List.mem_of_getElem? hk)))
theorem biMin {C : Cx} {L : List Ent} {ts : Array TypeId} {t : TypeId} {cs : Array Bool} {k : IntKind} {x y : Int} {next : Value → List Ent → Prop} (go : next (.int k (min x y)) L) : BiP C .min ts t cs [.int k x, .int k y] L next := by
  have e : (if y < x then y else x) = min x y := by split <;> omega
  rw [← e] at go
  exact biV (m := Builtin.min_ ts t #[.int k x, .int k y]) rfl (fun w _ => run_min_int2 w ts t k k x y) go
/-- no value -/
abbrev zCT : CT := .mk 0 0 [] (.slice none 0 0) (.slice none 0 0) [] []
theorem zero_held (w : World) : HeldT w (fun _ => False) zCT (.mk 0 0 [] [] []) :=
  ⟨fun k h => h.elim, .mk rfl rfl (.nil ..) (.nil ..) (fun n c j h => by simp at h) (fun n c j h => by simp at h) (fun n c j h => by simp at h)⟩
theorem zero_cs : CS zCT (.mk 0 0 [] [] []) := (zero_held { (default : World) with }).2.cs
/-- what both Gets give -/
theorem got_shape {c : CT} {j : JV} (h : CS c j) (A : Nat → Prop) (name : Bs) : ∃ (g : CT) (gj : JV) (A' : Nat → Prop) (ok : Bool), getV (c.got name) = .tuple #[.agg g.cs.toArray, .bool ok] ∧ CS g gj ∧ ∀ w, HeldT w A c j → HeldT w A' g gj := by
  cases hgot : c.got name with
  | none => exact ⟨zCT, .mk 0 0 [] [] [], fun _ => False, false, rfl, zero_cs, fun w _ => zero_held w⟩
  | some g =>
    cases h with
    | @mk k i s vl vp l p l' p' hll hlp hl hp kl kn kp =>
      have hg : (if k = 5 then (p.find? fun q => decide (q.1 = name)).map (·.2) else none) = some g := hgot
      by_cases h5 : k = 5
      · rw [if_pos h5] at hg
        cases hf : p.find? fun q => decide (q.1 = name) with
        | none => rw [hf] at hg; cases hg
        | some q =>
          rw [hf] at hg
          obtain rfl : q.2 = g := by simpa using hg
          obtain ⟨m, hm, he⟩ := List.mem_iff_getElem.1 (List.mem_of_find?_eq_some hf)
          have h1 : p[m]? = some q := by rw [List.getElem?_eq_getElem hm, he]
          have h2 : p'[m]? = some (p'[m]'(by omega)) := List.getElem?_eq_getElem (by omega)
          exact ⟨q.2, _, A, true, rfl, kp m _ _ h1 h2, fun w hw => ⟨hw.1, hw.2.kidp h1 h2⟩⟩
      · rw [if_neg h5] at hg; cases hg
set_option maxRecDepth 100000 in
set_option maxHeartbeats 4000000 in
theorem names_law (A : Nat → Prop) (c : CT) (j : JV) (name : Bs) (n : Int) (hn : -9223372036854775808 ≤ n ∧ n ≤ 9223372036854775807) (w : World) (h : HeldT w A c j) (hw : Laid w) : Calls Tryd.prog 3 ([.agg c.cs.toArray, sj name, .int .i64 n] : List Value).toArray w fun e w' => e = .returned (.bool true) ∧ Below w.heap.size w w' := by
  have hcs := h.2.cs
  have hc5 := c.cs5
  refine enterV tab_ok Tryd.func3 rfl Tryd.ntmps3 rfl (St.rdLT h hw) ?_
  intro b3 b5 b6
  refine cvs (fun w hs => alive_any w (hs.res (k := 0) rfl)) ?_
  refine cf rfl ?_
  refine ldN 2 rfl (show c.cs.toArray.size = 5 by rw [List.size_toArray, hc5]) ?_
  refine ce (Φ := fun x : Nat => 1 ≤ x ∧ x ≤ 300 + 1) (v := fun x => .int .i64 (x : Nat)) (fun w hs => many_any hcs A 300 w (by decide) (hs.res (k := 1) rfl)) (fun x hx => ?_)
  refine cd (fun hbig => ?_) (fun hbig => ?_)
  · refine s1 4 rfl (by show 0 < 1; decide) ?_
    refine ld1 4 rfl rfl ?_
    exact rt rfl
  · refine ld1 3 rfl rfl ?_
    obtain ⟨N, hN, hN2⟩ : ∃ N : Nat, (N : Int) = n % 18446744073709551616 ∧ N < 18446744073709551616 := ⟨(n % 18446744073709551616).toNat, by omega, by omega⟩
    refine .to (N : Int) (by rw [hN]; rfl) ?_
    refine ⟨by omega, by simp only [mx]; omega, by decide, ?_⟩
    refine .same (by simp only [mn]; omega) (by simp only [mx]; omega) ?_
    refine .as ((1 + N % 20 : Nat) : Int) (by omega) (by simp only [mn]; omega) (by simp only [mx]; omega) ?_
    refine s1 3 rfl (by show 0 < 1; decide) ?_
    refine ldN 2 rfl (show c.cs.toArray.size = 5 by rw [List.size_toArray, hc5]) ?_
    have hg := get_any A c j name
    have hr := rget_any A c j name
    obtain ⟨g, gj, A', ok, hgv, hgcs, hgh⟩ := got_shape hcs A name
    rw [hgv] at hg hr
    refine cvs (fun w hs => hg w (hs.res (k := 1) rfl)) ?_
    intro b7
    refine sN 5 rfl (by rw [List.size_toArray, g.cs5]; rfl) (by simpa using hgcs.one) ?_ (by rw [List.size_toArray, g.cs5]; kernel_rfl)
    refine ldN 2 rfl (show c.cs.toArray.size = 5 by rw [List.size_toArray, hc5]) ?_
    refine cvs (fun w hs => hr w (hs.res (k := 1) rfl)) ?_
    intro b9
    refine sN 6 rfl (by rw [List.size_toArray, g.cs5]; rfl) (by simpa using hgcs.one) ?_ (by rw [List.size_toArray, g.cs5]; kernel_rfl)
    have o1 : (ok != ok) = false := by simp
    have o2 : ((ok != ok) == false) = true := by simp
    refine ct o2 ?_
    refine ldN 5 rfl (by rw [List.size_toArray, g.cs5]) ?_
    refine ct o2 ?_
    refine ldN 6 rfl (by rw [List.size_toArray, g.cs5]) ?_
    refine ct o2 ?_
    refine cvs (fun w hs => exact_any hgcs A' w (hgh w (hs.res (k := 1) rfl))) ?_
    refine ct o2 ?_
    refine cf o1 ?_
    refine cf rfl ?_
    clear hg hr hgv
    obtain ⟨vl, vp, l, p, k, i, s, rfl⟩ : ∃ vl vp l p k i s, c = .mk k i s vl vp l p := by cases c; exact ⟨_, _, _, _, _, _, _, rfl⟩
    obtain ⟨l', p', rfl⟩ : ∃ l' p', j = .mk k i s l' p' := by cases hcs; exact ⟨_, _, rfl⟩
    obtain ⟨k3, a', cap', rfl, k4⟩ : SlOf vp p.length := by cases hcs; assumption
    intro b11 b12
    refine s1 7 rfl (by show 0 < 1; decide) ?_
    refine s1 8 rfl (by show 0 < 1; decide) ?_
    refine ld1 2 rfl rfl ?_
    refine cq (fun h5 => ?_) (fun h5 => ?_)
    · refine ld1 2 rfl rfl ?_
      refine s1 8 rfl (by show 0 < 1; decide) ?_
      refine ldN 2 rfl rfl ?_
      refine inl (C := ⟨Tryd.prog, tab, 90, [], w, none⟩) tab_ok Tryd.func13 rfl Tryd.ntmps13 rfl ?_
      intro b1
      refine bk ?_
      obtain ⟨hPA, hlen, hnm⟩ := Rt.pairs h.1 h.2
      have hnn : 1 ≤ 1 + N % 20 := by omega
      generalize 1 + N % 20 = nn at hnn ⊢
      refine rfi (C := ⟨Tryd.prog, tab, 90, [], w, none⟩) (L0 := [rs laidR, rs (rdT A (.mk k i s vl (.slice a' p.length cap') l p) (.mk k i s l' p')), cl b3 (vcl k i s vl (.slice a' p.length cap')).toArray TV, cl b5 #[.int .i64 (nn : Nat)] 3, cl b6 #[.bool false] 4, cl b7 g.cs.toArray TV, cl b9 g.cs.toArray TV, cl b12 #[.int .i64 (p.length : Nat)] 3, cl b1 (vcl k i s vl (.slice a' p.length cap')).toArray TV]) (α := Nat) (β := { u : Unit // nn ≤ p.length }) tab_ok rfl rfl rfl
        (names_itr b1 A k i s vl (.slice a' p.length cap') p' (eth p)) (fun i q => q = i ∧ q < nn ∧ q ≤ p.length) (fun _ q => [cl b11 #[.int .i64 (q : Nat)] 3]) (fun _ => ([cl b11 #[.int .i64 (nn : Nat)] 3], .exit 0)) (fun y => .inr ⟨0, rfl⟩) 0 ⟨rfl, by omega, Nat.zero_le _⟩ ?_
        (fun w' hs => ⟨⟨hs.nth (k := 8) rfl, (Rt.pairs (hs.res (k := 1) rfl : HeldT w' A _ _).1 (hs.res (k := 1) rfl : HeldT w' A _ _).2).1⟩, ?_⟩) ?_ ?_ ?_ ?_
      · have e1 : ∀ (a b c d e f g h i z : Ent), List.Perm [a, b, c, d, e, f, g, h, i, z] [a, b, c, d, e, f, g, z, h, i] := fun a b c d e f g h i z =>
          List.Perm.append_left [a, b, c, d, e, f, g] (List.perm_append_comm (l₁ := [h, i]) (l₂ := [z]))
        exact List.Perm.trans (.of_eq rfl) (List.Perm.trans (e1 ..) (.of_eq rfl))
      · rintro x (hx | hx | hx) e he hw
        · exact hx.elim
        · subst hx
          simp only [List.mem_cons, List.not_mem_nil, or_false] at he
          subst he
          exact (pw_ne hs.apart (i := 9) (j := 8) rfl rfl (by decide) _).1 hw (by simp)
        · simp only [List.mem_cons, List.not_mem_nil, or_false] at he
          have hx2 : (rs (rdT A (.mk k i s vl (.slice a' p.length cap') l p) (.mk k i s l' p'))).A x := (rsA _ x).2 (.inr hx)
          subst he
          exact (pw_ne hs.apart (i := 9) (j := 1) rfl rfl (by decide) _).1 hw hx2
      · rintro i args j ⟨_, ⟨q, _, rfl⟩, _⟩; rfl
      · rintro lq i0 args j0 x0 w' ready busy ⟨_, ⟨q, hq, rfl⟩, rfl⟩ ⟨rfl, hI1, hI2⟩
        have hn : x0 < p.length := by have := (List.getElem?_eq_some_iff.1 hq).1; omega
        obtain ⟨c0, hc0⟩ : ∃ c0, p[x0]? = some c0 := ⟨_, List.getElem?_eq_getElem hn⟩
        have hq1 := hnm x0 c0 q hc0 hq
        have hv5 := (hPA.vs x0 q hq).len
        have hv1 := (hPA.vs x0 q hq).one
        have heth : eth p x0 = c0.2.cs := by unfold eth; rw [hc0]; rfl
        rw [heth] at hv5 hv1 ⊢
        rw [← hq1]
        intro b14
        refine sN 11 rfl (by rw [List.size_toArray, hv5]; rfl) (by simpa using hv1) ?_ (by rw [List.size_toArray, hv5]; kernel_rfl)
        refine ⟨rfl, ?_⟩
        have hcp : CS c0.2 q.2 := by cases hcs with | mk _ _ _ _ _ _ kp => exact kp x0 c0 q hc0 hq
        obtain ⟨b, o, rfl⟩ := k4 (by omega)
        have hld0 : ∀ w, HeldT w A (.mk k i s vl (.slice (some ⟨b, o, none⟩) p.length cap') l p) (.mk k i s l' p') → w.cell? ⟨b, nad (nad o (nmu ((x0 : Nat) : Int).toNat 6)) 0, none⟩ = some (sj c0.1) := fun w h => by
          have := h.2.pair rfl hc0
          rw [nad_eq, nad_eq, nmu_eq, Int.toNat_natCast]; exact this 0 _ rfl
        have hld : ∀ w, HeldT w A (.mk k i s vl (.slice (some ⟨b, o, none⟩) p.length cap') l p) (.mk k i s l' p') → w.rangeAt b (nad (nad o (nmu ((x0 : Nat) : Int).toNat 6)) 1) c0.2.cs.toArray.toList := fun w h => by
          have := h.2.pair rfl hc0
          rw [nad_eq, nad_eq, nmu_eq, Int.toNat_natCast]
          intro y u hu
          rw [Nat.add_assoc (o + x0 * 6), Nat.add_comm 1 y]
          exact this (y + 1) u (by simpa using hu)
        have g1 : decide (((x0 : Nat) : Int) ≥ ((p.length : Nat) : Int)) = false := decide_eq_false (by omega)
        have g2 : (decide (((x0 : Nat) : Int) ≥ ((p.length : Nat) : Int)) == false) = true := by rw [g1]; rfl
        have e1 : (!((ByteArray.mk c0.1.toArray).toList == (ByteArray.mk c0.1.toArray).toList)) = false := by simp
        have e2 : ((!((ByteArray.mk c0.1.toArray).toList == (ByteArray.mk c0.1.toArray).toList)) == false) = true := by simp
        refine dr [(rs (rdT A (.mk k i s vl (.slice (some ⟨b, o, none⟩) p.length cap') l p) (.mk k i s l' p'))).rd, cr b3 (vcl k i s vl (.slice (some ⟨b, o, none⟩) p.length cap')).toArray TV, cr b12 #[.int .i64 (p.length : Nat)] 3, cl b11 #[.int .i64 (x0 : Nat)] 3, cl b14 c0.2.cs.toArray TV] 99 (.t 0 (.t 1 (.t 2 (.t 3 (.t 4 (.t 5 (.t 6 (.t 7 (.t 8 (.t 9 (.t 10 (.t 11 (.t 12 (.t 13 (.t 14 (.t 15 (.t 16 (.t 17 (.t 18 (.t 19 (.t 20 (.n 21 (.t 22 (.t 23 .nil)))))))))))))))))))))))) tab_ok mixed_ok (by kernel_rfl) (.drop (.cons (.cons (.drop (.drop (.drop (.drop (.cons (.drop (.cons (.drop (.cons .nil)))))))))))) ?_
        refine ld1 3 rfl rfl ?_
        refine ld1 2 rfl rfl ?_
        iterate 3 refine ct g2 ?_
        refine ld1 1 rfl rfl ?_
        refine ct g2 ?_
        refine ld1 3 rfl rfl ?_
        refine ct g2 ?_
        refine ⟨by omega, by omega, ?_⟩
        iterate 2 refine ct g2 ?_
        refine .mk (sj c0.1) (fun w hs => hld0 w (hs.resd (k := 0) rfl)) ?_
        refine ct g2 ?_
        refine cf g1 ?_
        refine ct e2 ?_
        refine ldN 4 rfl (by rw [List.size_toArray, hv5]) ?_
        iterate 2 refine ct e2 ?_
        refine ld1 1 rfl rfl ?_
        refine ct e2 ?_
        refine ld1 3 rfl rfl ?_
        refine ct e2 ?_
        refine ⟨by omega, by omega, ?_⟩
        iterate 2 refine ct e2 ?_
        refine .mk c0.2.cs.toArray (by rw [List.size_toArray, CT.cs5]) (fun w hs => hld w (hs.resd (k := 0) rfl)) ?_
        refine ct e2 ?_
        refine cvs (fun w hs => exact_any hcp A w ⟨(hs.resd (k := 1) rfl : HeldT w A _ _).1, (hs.resd (k := 1) rfl : HeldT w A _ _).2.kidp hc0 hq⟩) ?_
        refine ⟨.drop (.cons (.cons (.drop (.drop (.drop (.drop (.cons (.drop (.cons (.drop (.cons .nil))))))))))), ?_⟩
        refine ct e2 ?_
        refine cf e1 ?_
        refine cf rfl ?_
        refine ld1 9 rfl rfl ?_
        refine .as ((x0 + 1 : Nat) : Int) (by simp) (by simp only [mn]; omega) (by simp only [mx]; unfold maxLen at k3; omega) ?_
        refine s1 9 rfl (by show 0 < 1; decide) ?_
        refine ld1 9 rfl rfl ?_
        refine ld1 3 rfl rfl ?_
        refine cq (fun h => ?_) (fun h => ?_)
        · obtain rfl : x0 + 1 = nn := by omega
          exact ⟨⟨(), by omega⟩, rfl, .drop (.drop (.drop (.drop (.drop (.drop (.drop (.drop (.drop (.cons (.cons (.drop .nil))))))))))), fun e he b hb => by
            simp only [List.mem_cons, List.not_mem_nil, or_false] at he
            subst he
            exact .inl ⟨cl b11 #[.int .i64 (x0 : Nat)] 3, by simp, by simpa using hb⟩⟩
        · refine ⟨x0 + 1, ⟨rfl, by omega, by omega⟩, .drop (.drop (.drop (.drop (.drop (.drop (.drop (.drop (.drop (.cons (.cons (.drop .nil))))))))))), fun e he b hb => ?_⟩
          simp only [List.mem_cons, List.not_mem_nil, or_false] at he
          subst he
          exact .inl ⟨cl b11 #[.int .i64 (x0 : Nat)] 3, by simp, by simpa using hb⟩
      · rintro i0 q b0 hf ⟨rfl, hI1, hI2⟩
        have := hf h5
        obtain rfl : q = p.length := by omega
        refine ld1 9 rfl rfl ?_
        refine ld1 3 rfl rfl ?_
        refine ld1 7 rfl rfl ?_
        refine biMin ?_
        refine s1 4 rfl (by show 0 < 1; decide) ?_
        refine .mk 10 rfl ?_
        refine ld1 4 rfl rfl ?_
        exact rt (congrArg Value.bool (by rw [beq_iff_eq]; omega))
      · rintro ⟨_, hle⟩ b0
        refine ld1 9 rfl rfl ?_
        refine ld1 3 rfl rfl ?_
        refine ld1 7 rfl rfl ?_
        refine biMin ?_
        refine s1 4 rfl (by show 0 < 1; decide) ?_
        refine .mk 10 rfl ?_
        refine ld1 4 rfl rfl ?_
        exact rt (congrArg Value.bool (by rw [beq_iff_eq]; omega))
    · refine ldN 2 rfl rfl ?_
      refine inl (C := ⟨Tryd.prog, tab, 90, [], w, none⟩) tab_ok Tryd.func13 rfl Tryd.ntmps13 rfl ?_
      intro b1
      refine bk ?_
      obtain ⟨hPA, hlen, hnm⟩ := Rt.pairs h.1 h.2
      have hnn : 1 ≤ 1 + N % 20 := by omega
      generalize 1 + N % 20 = nn at hnn ⊢
      refine rfi (C := ⟨Tryd.prog, tab, 90, [], w, none⟩) (L0 := [rs laidR, rs (rdT A (.mk k i s vl (.slice a' p.length cap') l p) (.mk k i s l' p')), cl b3 (vcl k i s vl (.slice a' p.length cap')).toArray TV, cl b5 #[.int .i64 (nn : Nat)] 3, cl b6 #[.bool false] 4, cl b7 g.cs.toArray TV, cl b9 g.cs.toArray TV, cl b12 #[.int .i64 0] 3, cl b1 (vcl k i s vl (.slice a' p.length cap')).toArray TV]) (α := Nat) (β := Empty) tab_ok rfl rfl rfl
        (names_itr b1 A k i s vl (.slice a' p.length cap') p' (eth p)) (fun i q => q = 0 ∧ q < nn) (fun _ q => [cl b11 #[.int .i64 (q : Nat)] 3]) (fun _ => ([cl b11 #[.int .i64 (nn : Nat)] 3], .exit 0)) (fun y => y.elim) 0 ⟨rfl, by omega⟩ ?_
        (fun w' hs => ⟨⟨hs.nth (k := 8) rfl, (Rt.pairs (hs.res (k := 1) rfl : HeldT w' A _ _).1 (hs.res (k := 1) rfl : HeldT w' A _ _).2).1⟩, ?_⟩) ?_ ?_ ?_ ?_
      · have e1 : ∀ (a b c d e f g h i z : Ent), List.Perm [a, b, c, d, e, f, g, h, i, z] [a, b, c, d, e, f, g, z, h, i] := fun a b c d e f g h i z =>
          List.Perm.append_left [a, b, c, d, e, f, g] (List.perm_append_comm (l₁ := [h, i]) (l₂ := [z]))
        exact List.Perm.trans (.of_eq rfl) (List.Perm.trans (e1 ..) (.of_eq rfl))
      · rintro x (hx | hx | hx) e he hw
        · exact hx.elim
        · subst hx
          simp only [List.mem_cons, List.not_mem_nil, or_false] at he
          subst he
          exact (pw_ne hs.apart (i := 9) (j := 8) rfl rfl (by decide) _).1 hw (by simp)
        · simp only [List.mem_cons, List.not_mem_nil, or_false] at he
          have hx2 : (rs (rdT A (.mk k i s vl (.slice a' p.length cap') l p) (.mk k i s l' p'))).A x := (rsA _ x).2 (.inr hx)
          subst he
          exact (pw_ne hs.apart (i := 9) (j := 1) rfl rfl (by decide) _).1 hw hx2
      · rintro i args j ⟨_, ⟨q, _, rfl⟩, _⟩; rfl
      · rintro lq i0 args j0 x0 w' ready busy ⟨h6, _⟩ _; exact absurd h6 h5
      · rintro i0 q b0 hf ⟨rfl, hI1⟩
        refine ld1 9 rfl rfl ?_
        refine ld1 3 rfl rfl ?_
        refine ld1 7 rfl rfl ?_
        refine biMin ?_
        refine s1 4 rfl (by show 0 < 1; decide) ?_
        refine .mk 10 rfl ?_
        refine ld1 4 rfl rfl ?_
        exact rt (congrArg Value.bool (by rw [beq_iff_eq]; omega))
      · exact fun y => y.elim
end Go.Proofs.YtpegkoklmhccjaaDoor
