/- Chapter 12: the reference's value of a name. -/
import Derived.Test.YtpegkoklmhccjaaDoorJsZ
namespace Go.Proofs.YtpegkoklmhccjaaDoor
open Go.RowKit Go.Sx
set_option linter.unusedVariables false
set_option maxRecDepth 100000 in
set_option maxHeartbeats 4000000 in
theorem rget_any (A : Nat → Prop) (c : CT) (j : JV) (name : Bs) (w : World) (h : HeldT w A c j) : Calls Tryd.prog 11 ([.agg c.cs.toArray, sj name] : List Value).toArray w fun e w' => e = .returned (getV (c.got name)) ∧ Below w.heap.size w w' := by
  obtain ⟨vl, vp, l, p, k, i, s, rfl⟩ : ∃ vl vp l p k i s, c = .mk k i s vl vp l p := by cases c; exact ⟨_, _, _, _, _, _, _, rfl⟩
  obtain ⟨l', p', rfl⟩ : ∃ l' p', j = .mk k i s l' p' := by cases h.2; exact ⟨_, _, rfl⟩
  obtain ⟨k3, a', cap', rfl, k4⟩ : SlOf vp p.length := by cases h.2.cs; assumption
  have hgot : ∀ m, (CT.mk k i s vl (.slice a' p.length cap') l p).got m = if k = 5 then (p.find? fun q => decide (q.1 = m)).map (·.2) else none := fun _ => rfl
  refine enterV tab_ok Tryd.func11 rfl Tryd.ntmps11 rfl (St.rdT h) ?_
  intro b2 b4
  refine lp tab_ok (fun q : Nat => q ≤ p.length ∧ ∀ m, m < q → ∀ x, p[m]? = some x → x.1 ≠ name) (fun q => ⟨[(1, sj name), (2, pj b2), (4, pj b4), (5, .bool false), (6, .int .i64 (q : Nat))], [rs (rdT A (.mk k i s vl (.slice a' p.length cap') l p) (.mk k i s l' p')), cl b2 (vcl k i s vl (.slice a' p.length cap')).toArray TV, cl b4 (valC 0 0 []) TV], []⟩) (fun q => p.length - q) 0 ⟨Nat.zero_le _, fun m hm => absurd hm (Nat.not_lt_zero _)⟩ ⟨⟨rfl, rfl, rfl, rfl, rfl, trivial⟩, .cons (.cons (.cons .nil)), rfl⟩ ?_
  rintro q ⟨hq, hI⟩
  refine ld1 1 rfl rfl ?_
  by_cases hql : q < p.length
  · have f1 : decide ((q : Int) < (p.length : Int)) = true := decide_eq_true (by omega)
    have f2 : (decide ((q : Int) < (p.length : Int)) == true) = true := by rw [f1]; rfl
    iterate 2 refine ct f2 ?_
    refine ld1 1 rfl rfl ?_
    refine ct f2 ?_
    refine ct f1 ?_
    refine cq (fun h5 => ?_) (fun h5 => ?_)
    · have hc0 : p[q]? = some p[q] := List.getElem?_eq_getElem hql
      generalize p[q] = c0 at hc0
      obtain ⟨b, o, rfl⟩ := k4 (by omega)
      refine ld1 1 rfl rfl ?_
      refine ⟨by omega, by omega, ?_⟩
      refine .mk (sj c0.1) (fun w hs => ?_) ?_
      · have := (hs.res (k := 0) rfl : HeldT w A _ _).2.pair rfl hc0
        rw [nad_eq, nad_eq, nmu_eq, Int.toNat_natCast]; exact this 0 _ rfl
      by_cases hn : c0.1 = name
      · refine ct (by rw [list_beq]; exact decide_eq_true hn) ?_
        refine ld1 1 rfl rfl ?_
        refine ⟨by omega, by omega, ?_⟩
        refine .mk c0.2.cs.toArray (by rw [List.size_toArray, CT.cs5]) (fun w hs => ?_) ?_
        · have := (hs.res (k := 0) rfl : HeldT w A _ _).2.pair rfl hc0
          rw [nad_eq, nad_eq, nmu_eq, Int.toNat_natCast]
          intro y u hu
          rw [Nat.add_assoc (o + q * 6), Nat.add_comm 1 y]
          exact this (y + 1) u (by simpa using hu)
        have hone : c0.2.cs.all (·.oneCell') = true := by
          have hlt := (List.getElem?_eq_some_iff.1 hc0).1
          cases h.2.cs with
          | mk hll hlp _ _ _ _ kp => exact (kp q c0 _ hc0 (List.getElem?_eq_getElem (by omega))).one
        refine sN 2 rfl (by rw [List.size_toArray, CT.cs5]; rfl) (by simpa using hone) ?_ (by rw [List.size_toArray, CT.cs5]; kernel_rfl)
        refine ldN 2 rfl (by rw [List.size_toArray, CT.cs5]) ?_
        refine rt ?_
        rw [hgot, if_pos h5, find_first hc0 hn hI]; rfl
      · refine cf (by rw [list_beq]; exact decide_eq_false hn) ?_
        refine .as ((q + 1 : Nat) : Int) (by simp) (by simp only [mn]; omega) (by simp only [mx]; unfold maxLen at k3; omega) ?_
        refine ⟨q + 1, ⟨by omega, fun m hm x hx => ?_⟩, by omega, ⟨⟨rfl, rfl, rfl, rfl, rfl, trivial⟩, .cons (.cons (.cons .nil)), rfl⟩⟩
        by_cases hmq : m < q
        · exact hI m hmq x hx
        · obtain rfl : m = q := by omega
          rw [hc0] at hx
          obtain rfl : c0 = x := Option.some.inj hx
          exact hn
    · refine bu (c := valC 0 0 []) rfl ?_
      refine sN 2 rfl rfl (by simp [Value.oneCell']) ?_ (by kernel_rfl)
      refine ldN 2 rfl rfl ?_
      refine rt ?_
      rw [hgot, if_neg h5]; rfl
  · have f1 : decide ((q : Int) < (p.length : Int)) = false := decide_eq_false (by omega)
    have f2 : (decide ((q : Int) < (p.length : Int)) == true) = false := by rw [f1]; rfl
    iterate 3 refine cf f2 ?_
    refine cf f1 ?_
    refine cf rfl ?_
    refine bu (c := valC 0 0 []) rfl ?_
    refine sN 2 rfl rfl (by simp [Value.oneCell']) ?_ (by kernel_rfl)
    refine ldN 2 rfl rfl ?_
    refine rt ?_
    rw [hgot]
    split
    · rw [find_none fun m hm => hI m (by omega)]; rfl
    · rfl
end Go.Proofs.YtpegkoklmhccjaaDoor
