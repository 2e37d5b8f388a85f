/- Chapter 12: how many values there are. -/
import Derived.Test.YtpegkoklmhccjaaDoorJsY
namespace Go.Proofs.YtpegkoklmhccjaaDoor
open Go.RowKit Go.Sx
set_option linter.unusedVariables false
theorem Rt.pair {w : World} {A : Nat → Prop} {k i : Int} {s : Bs} {vl vp : Value} {l : List CT} {p : List (Bs × CT)} {j : JV} (h : Rt w A (.mk k i s vl vp l p) j) {b o n cap : Nat} {m : Nat} (hv : vp = .slice (some ⟨b, o, none⟩) n cap) {c : Bs × CT} (hc : p[m]? = some c) : w.rangeAt b (o + m * 6) (sj c.1 :: c.2.cs) := by
  cases h with
  | mk ll lp hl hp kl kn kp =>
    have hm := (List.getElem?_eq_some_iff.1 hc).1
    obtain ⟨_, a, cap', e, hr⟩ := hp
    rw [hv] at e
    injection e with e1 e2 e3
    obtain ⟨b', o', e4, _, hr⟩ := hr (by omega)
    rw [← e1] at e4
    injection e4 with e4
    injection e4 with e5 e6
    subst e5 e6
    have := (hr m hm).2
    unfold CT.pth at this
    rw [hc] at this
    exact this
theorem Rt.kid {w : World} {A : Nat → Prop} {k i : Int} {s : Bs} {vl vp : Value} {l : List CT} {p : List (Bs × CT)} {l' : List JV} {p' : List (Bs × JV)} (h : Rt w A (.mk k i s vl vp l p) (.mk k i s l' p')) {n : Nat} {c : CT} {j : JV} (h1 : l[n]? = some c) (h2 : l'[n]? = some j) : Rt w A c j := by
  cases h with
  | mk ll lp hl hp kl kn kp => exact kl n c j h1 h2
theorem Rt.kidp {w : World} {A : Nat → Prop} {k i : Int} {s : Bs} {vl vp : Value} {l : List CT} {p : List (Bs × CT)} {l' : List JV} {p' : List (Bs × JV)} (h : Rt w A (.mk k i s vl vp l p) (.mk k i s l' p')) {n : Nat} {c : Bs × CT} {j : Bs × JV} (h1 : p[n]? = some c) (h2 : p'[n]? = some j) : Rt w A c.2 j.2 := by
  cases h with
  | mk ll lp hl hp kl kn kp => exact kp n c j h1 h2
theorem St.rdT {w : World} {A : Nat → Prop} {c : CT} {j : JV} (h : HeldT w A c j) : St [] w w [rs (rdT A c j)] := St.reads fun e he => by
  obtain rfl : e = _ := by simpa using he
  exact ⟨(rsOk _ w).2 h, fun k hk => (rsW _ k).1 hk⟩
set_option maxRecDepth 100000 in
set_option maxHeartbeats 4000000 in
theorem many_any {c : CT} {j : JV} (hcs : CS c j) : ∀ (A : Nat → Prop) (m : Nat) (w : World), m ≤ 1000 → HeldT w A c j → Calls Tryd.prog 9 ([.agg c.cs.toArray, .int .i64 (m : Nat)] : List Value).toArray w fun e w' => ∃ x : Nat, (1 ≤ x ∧ x ≤ m + 1) ∧ e = .returned (.int .i64 (x : Nat)) ∧ Below w.heap.size w w' := by
  induction hcs with
  | @mk k i s vl vp l p l' p' hll hlp hl hp kl kn kp ihl ihp =>
    intro A m w hm h
    obtain ⟨k1, a, cap, rfl, k2⟩ := hl
    obtain ⟨k3, a', cap', rfl, k4⟩ := hp
    refine (enter (R := fun u w' => ∃ x : Nat, (1 ≤ x ∧ x ≤ m + 1) ∧ u = .int .i64 (x : Nat) ∧ Below w.heap.size w w') tab_ok (g := 9) Tryd.func9 rfl Tryd.ntmps9 (vs := [.agg (CT.mk k i s (.slice a l.length cap) (.slice a' p.length cap') l p).cs.toArray, .int .i64 (m : Nat)]) rfl (St.rdT h) ?_).mono fun e w' ⟨u, he, x, hx, hu, h2⟩ => ⟨x, hx, by rw [he, hu], h2⟩
    intro b2
    refine lp tab_ok (fun x : Nat × Nat => x.1 ≤ l.length ∧ 1 ≤ x.2 ∧ x.2 ≤ m + 1) (fun x => ⟨[(1, .int .i64 (m : Nat)), (2, pj b2), (5, .int .i64 (x.2 : Nat)), (6, .int .i64 (x.1 : Nat))], [rs (rdT A (.mk k i s (.slice a l.length cap) (.slice a' p.length cap') l p) (.mk k i s l' p')), cl b2 (vcl k i s (.slice a l.length cap) (.slice a' p.length cap')).toArray TV], []⟩) (fun x => l.length - x.1) (0, 1) ⟨Nat.zero_le _, Nat.le_refl _, by simp only; omega⟩ ⟨⟨rfl, rfl, rfl, rfl, trivial⟩, .cons (.cons .nil), rfl⟩ ?_
    rintro ⟨q, n⟩ ⟨hq, hn1, hn2⟩
    simp only at hq hn1 hn2
    refine ld1 1 rfl rfl ?_
    by_cases hql : q < l.length
    · have f1 : decide ((q : Int) < (l.length : Int)) = true := decide_eq_true (by omega)
      have f2 : (decide ((q : Int) < (l.length : Int)) == true) = true := by rw [f1]; rfl
      iterate 3 refine ct f2 ?_
      refine ct f1 ?_
      refine cd (fun hnm => ?_) (fun hnm => ?_)
      · have hc0 : l[q]? = some l[q] := List.getElem?_eq_getElem hql
        have hj0 : l'[q]? = some (l'[q]'(by omega)) := List.getElem?_eq_getElem (by omega)
        generalize l[q] = c0 at hc0
        generalize l'[q]'(by omega) = j0 at hj0
        obtain ⟨b, o, rfl⟩ := k2 (by omega)
        refine ld1 1 rfl rfl ?_
        refine ⟨by simp only; omega, by simp only; omega, ?_⟩
        refine .mk c0.cs.toArray (by rw [List.size_toArray, CT.cs5]) (fun w hs => ?_) ?_
        · have h2 := (hs.res (k := 0) rfl : HeldT w A _ _).2
          have := h2.item rfl hc0
          rw [nad_eq, nmu_eq, Int.toNat_natCast]; exact this
        refine .as ((m - n : Nat) : Int) (by simp only at hnm; omega) (by simp only [mn]; omega) (by simp only [mx]; omega) ?_
        refine ce (Φ := fun x : Nat => 1 ≤ x ∧ x ≤ (m - n) + 1) (v := fun x => .int .i64 (x : Nat)) (fun w hs => ihl q c0 j0 hc0 hj0 A (m - n) w (by omega) ⟨(hs.res (k := 0) rfl : HeldT w A _ _).1, (hs.res (k := 0) rfl : HeldT w A _ _).2.kid hc0 hj0⟩) (fun x hx => ?_)
        simp only at hnm
        refine .as ((n + x : Nat) : Int) (by simp) (by simp only [mn]; omega) (by simp only [mx]; omega) ?_
        refine .as ((q + 1 : Nat) : Int) (by simp) (by simp only [mn]; omega) (by simp only [mx]; unfold maxLen at k1; omega) ?_
        exact ⟨(q + 1, n + x), ⟨by simp only; omega, by simp only; omega, by simp only; omega⟩, by simp only; omega, ⟨⟨rfl, rfl, rfl, rfl, trivial⟩, .cons (.cons .nil), rfl⟩⟩
      · clear hnm
        refine lp tab_ok (fun x : Nat × Nat => x.1 ≤ p.length ∧ 1 ≤ x.2 ∧ x.2 ≤ m + 1) (fun x => ⟨[(1, .int .i64 (m : Nat)), (2, pj b2), (5, .int .i64 (x.2 : Nat)), (7, .int .i64 (x.1 : Nat))], [rs (rdT A (.mk k i s (.slice a l.length cap) (.slice a' p.length cap') l p) (.mk k i s l' p')), cl b2 (vcl k i s (.slice a l.length cap) (.slice a' p.length cap')).toArray TV], []⟩) (fun x => p.length - x.1) (0, n) ⟨Nat.zero_le _, hn1, hn2⟩ ⟨⟨rfl, rfl, rfl, rfl, trivial⟩, .cons (.cons .nil), rfl⟩ ?_
        rintro ⟨q, n⟩ ⟨hq, hn1, hn2⟩
        simp only at hq hn1 hn2
        refine ld1 1 rfl rfl ?_
        by_cases hql : q < p.length
        · have f1 : decide ((q : Int) < (p.length : Int)) = true := decide_eq_true (by omega)
          have f2 : (decide ((q : Int) < (p.length : Int)) == true) = true := by rw [f1]; rfl
          iterate 3 refine ct f2 ?_
          refine ct f1 ?_
          refine cd (fun hnm => ?_) (fun hnm => ?_)
          · have hc0 : p[q]? = some p[q] := List.getElem?_eq_getElem hql
            have hj0 : p'[q]? = some (p'[q]'(by omega)) := List.getElem?_eq_getElem (by omega)
            generalize p[q] = c0 at hc0
            generalize p'[q]'(by omega) = j0 at hj0
            obtain ⟨b, o, rfl⟩ := k4 (by omega)
            refine ld1 1 rfl rfl ?_
            refine ⟨by simp only; omega, by simp only; omega, ?_⟩
            refine .mk c0.2.cs.toArray (by rw [List.size_toArray, CT.cs5]) (fun w hs => ?_) ?_
            · have h2 := (hs.res (k := 0) rfl : HeldT w A _ _).2
              have := h2.pair rfl hc0
              rw [nad_eq, nad_eq, nmu_eq, Int.toNat_natCast]
              intro y u hu
              rw [Nat.add_assoc (o + q * 6), Nat.add_comm 1 y]
              exact this (y + 1) u (by simpa using hu)
            refine .as ((m - n : Nat) : Int) (by simp only at hnm; omega) (by simp only [mn]; omega) (by simp only [mx]; omega) ?_
            refine ce (Φ := fun x : Nat => 1 ≤ x ∧ x ≤ (m - n) + 1) (v := fun x => .int .i64 (x : Nat)) (fun w hs => ihp q c0 j0 hc0 hj0 A (m - n) w (by omega) ⟨(hs.res (k := 0) rfl : HeldT w A _ _).1, (hs.res (k := 0) rfl : HeldT w A _ _).2.kidp hc0 hj0⟩) (fun x hx => ?_)
            simp only at hnm
            refine .as ((n + x : Nat) : Int) (by simp) (by simp only [mn]; omega) (by simp only [mx]; omega) ?_
            refine .as ((q + 1 : Nat) : Int) (by simp) (by simp only [mn]; omega) (by simp only [mx]; unfold maxLen at k3; omega) ?_
            exact ⟨(q + 1, n + x), ⟨by simp only; omega, by simp only; omega, by simp only; omega⟩, by simp only; omega, ⟨⟨rfl, rfl, rfl, rfl, trivial⟩, .cons (.cons .nil), rfl⟩⟩
          · exact ⟨fun w' hs => ⟨n, ⟨hn1, hn2⟩, rfl, hs.below⟩⟩
        · have f1 : decide ((q : Int) < (p.length : Int)) = false := decide_eq_false (by omega)
          have f2 : (decide ((q : Int) < (p.length : Int)) == true) = false := by rw [f1]; rfl
          iterate 3 refine cf f2 ?_
          refine cf f1 ?_
          refine cf rfl ?_
          exact ⟨fun w' hs => ⟨n, ⟨hn1, hn2⟩, rfl, hs.below⟩⟩
    · have f1 : decide ((q : Int) < (l.length : Int)) = false := decide_eq_false (by omega)
      have f2 : (decide ((q : Int) < (l.length : Int)) == true) = false := by rw [f1]; rfl
      iterate 3 refine cf f2 ?_
      refine cf f1 ?_
      refine cf rfl ?_
      refine lp tab_ok (fun x : Nat × Nat => x.1 ≤ p.length ∧ 1 ≤ x.2 ∧ x.2 ≤ m + 1) (fun x => ⟨[(1, .int .i64 (m : Nat)), (2, pj b2), (5, .int .i64 (x.2 : Nat)), (7, .int .i64 (x.1 : Nat))], [rs (rdT A (.mk k i s (.slice a l.length cap) (.slice a' p.length cap') l p) (.mk k i s l' p')), cl b2 (vcl k i s (.slice a l.length cap) (.slice a' p.length cap')).toArray TV], []⟩) (fun x => p.length - x.1) (0, n) ⟨Nat.zero_le _, hn1, hn2⟩ ⟨⟨rfl, rfl, rfl, rfl, trivial⟩, .cons (.cons .nil), rfl⟩ ?_
      rintro ⟨q, n⟩ ⟨hq, hn1, hn2⟩
      simp only at hq hn1 hn2
      refine ld1 1 rfl rfl ?_
      by_cases hql : q < p.length
      · have f1 : decide ((q : Int) < (p.length : Int)) = true := decide_eq_true (by omega)
        have f2 : (decide ((q : Int) < (p.length : Int)) == true) = true := by rw [f1]; rfl
        iterate 3 refine ct f2 ?_
        refine ct f1 ?_
        refine cd (fun hnm => ?_) (fun hnm => ?_)
        · have hc0 : p[q]? = some p[q] := List.getElem?_eq_getElem hql
          have hj0 : p'[q]? = some (p'[q]'(by omega)) := List.getElem?_eq_getElem (by omega)
          generalize p[q] = c0 at hc0
          generalize p'[q]'(by omega) = j0 at hj0
          obtain ⟨b, o, rfl⟩ := k4 (by omega)
          refine ld1 1 rfl rfl ?_
          refine ⟨by simp only; omega, by simp only; omega, ?_⟩
          refine .mk c0.2.cs.toArray (by rw [List.size_toArray, CT.cs5]) (fun w hs => ?_) ?_
          · have h2 := (hs.res (k := 0) rfl : HeldT w A _ _).2
            have := h2.pair rfl hc0
            rw [nad_eq, nad_eq, nmu_eq, Int.toNat_natCast]
            intro y u hu
            rw [Nat.add_assoc (o + q * 6), Nat.add_comm 1 y]
            exact this (y + 1) u (by simpa using hu)
          refine .as ((m - n : Nat) : Int) (by simp only at hnm; omega) (by simp only [mn]; omega) (by simp only [mx]; omega) ?_
          refine ce (Φ := fun x : Nat => 1 ≤ x ∧ x ≤ (m - n) + 1) (v := fun x => .int .i64 (x : Nat)) (fun w hs => ihp q c0 j0 hc0 hj0 A (m - n) w (by omega) ⟨(hs.res (k := 0) rfl : HeldT w A _ _).1, (hs.res (k := 0) rfl : HeldT w A _ _).2.kidp hc0 hj0⟩) (fun x hx => ?_)
          simp only at hnm
          refine .as ((n + x : Nat) : Int) (by simp) (by simp only [mn]; omega) (by simp only [mx]; omega) ?_
          refine .as ((q + 1 : Nat) : Int) (by simp) (by simp only [mn]; omega) (by simp only [mx]; unfold maxLen at k3; omega) ?_
          exact ⟨(q + 1, n + x), ⟨by simp only; omega, by simp only; omega, by simp only; omega⟩, by simp only; omega, ⟨⟨rfl, rfl, rfl, rfl, trivial⟩, .cons (.cons .nil), rfl⟩⟩
        · exact ⟨fun w' hs => ⟨n, ⟨hn1, hn2⟩, rfl, hs.below⟩⟩
      · have f1 : decide ((q : Int) < (p.length : Int)) = false := decide_eq_false (by omega)
        have f2 : (decide ((q : Int) < (p.length : Int)) == true) = false := by rw [f1]; rfl
        iterate 3 refine cf f2 ?_
        refine cf f1 ?_
        refine cf rfl ?_
        exact ⟨fun w' hs => ⟨n, ⟨hn1, hn2⟩, rfl, hs.below⟩⟩
end Go.Proofs.YtpegkoklmhccjaaDoor
