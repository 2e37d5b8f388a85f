/- Chapter 12: the reader: lists, the walk. -/
import Derived.Test.YtpegkoklmhccjaaDoorJsN
namespace Go.Proofs.YtpegkoklmhccjaaDoor
open Go.RowKit Go.Sx
set_option linter.unusedVariables false
theorem eat_lt (c : UInt8) (s : Bs) (h : (eatP c s).1 = true) : (eatP c s).2.length < s.length := by
  have hw := ws_len s
  unfold eatP at h ⊢
  cases hs : ws s with
  | nil => rw [hs] at h; cases h
  | cons x t =>
    rw [hs] at h hw
    dsimp only at h ⊢
    split
    · simp at hw; dsimp only; omega
    · rename_i hx; rw [if_neg hx] at h; cases h
section
variable {b : Nat} {t : Bs} {d : Nat} {w : World}
set_option maxRecDepth 100000 in
theorem list_any {V : Bs → Option (JV × Bs)} (hd : d + 1 ≤ 8) (hV : VIs V b ((d + 1 : Nat) : Int)) (hl : t.length < 100000) (h : w.heap[b]? = some (.cells (rdC (91 :: t) false d) TRd (0, 0))) (hw : Laid w) : ValC 50 [pj b] (lstG V t) (91 :: t) b d w := by
  refine enterVC tab_ok Tryd.func50 rfl Tryd.ntmps50 rfl (St.rdH h hw) ?_
  intro b1 b2
  refine bu (c := valC 4 0 []) rfl ?_
  intro b3
  refine sN 5 rfl rfl (by simp [Value.oneCell']) ?_ (by kernel_rfl)
  refine ld1 3 rfl rfl ?_
  refine inl (C := ⟨Tryd.prog, tab, _, [bl b], w, _⟩) tab_ok Tryd.func66 rfl Tryd.ntmps66 rfl ?_
  intro b4
  refine ld1 6 rfl rfl ?_
  refine ld1 0 rfl rfl ?_
  refine .as ((d + 1 : Nat) : Int) (by omega) (by simp only [mn]; omega) (by simp only [mx]; omega) ?_
  refine s1 0 rfl (by show 2 < 3; decide) ?_
  refine ld1 6 rfl rfl ?_
  have he : eatP 91 (91 :: t) = (true, t) := eat_open 91 (by decide) t
  refine cU1 0 rfl (v := .bool true) (c := rdC t false ((d + 1 : Nat) : Int)) (fun w h => by have := eat_any (s := 91 :: t) 91 (by simp; omega) h; rw [he] at this; exact this) ?_
  iterate 1 refine ct rfl ?_
  refine ld1 6 rfl rfl ?_
  iterate 3 refine ct rfl ?_
  refine ld1 0 rfl rfl ?_
  refine ct rfl ?_
  refine cf rfl ?_
  refine cf (decide_eq_false (by omega)) ?_
  refine ld1 6 rfl rfl ?_
  have hle := eat_len 93 t
  generalize hE : eatP 93 t = E at hle
  obtain ⟨e1, u⟩ := E
  dsimp only at hle
  refine cU1 0 rfl (v := .bool e1) (c := rdC u false ((d + 1 : Nat) : Int)) (fun w h => by have := eat_any (s := t) 93 (by omega) h; rw [hE] at this; exact this) ?_
  cases e1 with
  | true =>
    refine ct rfl ?_
    refine dfl (C := ⟨Tryd.prog, tab, _, [bl b], w, _⟩) tab_ok Tryd.func79 rfl Tryd.ntmps79 rfl rfl ?_
    refine ld1 6 rfl rfl ?_
    refine ld1 0 rfl rfl ?_
    refine .as (d : Int) (by omega) (by simp only [mn]; omega) (by simp only [mx]; omega) ?_
    refine s1 0 rfl (by show 2 < 3; decide) ?_
    refine ⟨rfl, bk ?_⟩
    refine bk ?_
    refine ldN 5 rfl rfl ?_
    refine sN 4 rfl rfl (by simp [Value.oneCell']) ?_ (by kernel_rfl)
    refine ldN 4 rfl rfl ?_

    exact ⟨fun w' hs => list_end hs.deads 1 6 (r := none) (ks := []) rfl rfl (Rw.nil 5) rfl (fun y hy => by simp at hy) (by decide) (by simp; omega) (.inr ⟨rfl, by unfold lstG; rw [hE]; rfl⟩)⟩
  | false =>
    refine cf rfl ?_
    have hspec : lstG V t = (itmG V (u.length + 1) u).map fun p => (.mk 4 0 [] p.1 [], p.2) := by unfold lstG; rw [hE]; rfl
    refine lp tab_ok (LsJ (itmG V (u.length + 1) u) V u) (fun x => ⟨[(2, .int .u8 93), (3, .func (.func 67) #[] #[pj b1, pj b3]), (4, pj b4)], lsL b ((d + 1 : Nat) : Int) b1 b2 b3 b4 x, [⟨.fn (.func 79) #[pj b4], #[]⟩]⟩) (fun x => cond x.bad 0 (x.n + 1)) ⟨[], none, none, 0, fun _ => False, u, false, u.length + 1⟩
      ⟨Nat.le_refl _, fun _ => by simp, by simp, by simp, Rw.nil 5, rfl, fun y hy => by simp at hy, .inr ⟨rfl, by simp⟩⟩ ⟨⟨rfl, rfl, rfl, trivial⟩, .cons (.cons (.cons (.cons (.cons (.cons (.cons (.pad .nil))))))), rfl⟩ ?_
    rintro ⟨ks, r, a, cc, A, v, bad, n⟩ ⟨htl, hkl, hkm0, hn, hR, he2, hz, hok⟩
    dsimp only at htl hkl hkm0 hn hR he2 hz hok ⊢
    have hkm : ks.length ≤ maxLen := by unfold maxLen; omega
    have hvl : v.length ≤ (91 :: t).length := by simp; omega
    refine ld1 6 rfl rfl ?_
    refine ld1 0 rfl (v := .bool bad) rfl ?_
    rcases hok with ⟨rfl, hq⟩ | ⟨rfl, hq⟩
    · refine cf rfl ?_
      refine dfl (C := ⟨Tryd.prog, tab, _, [bl b], w, _⟩) tab_ok Tryd.func79 rfl Tryd.ntmps79 rfl rfl ?_
      refine ld1 6 rfl rfl ?_
      refine ld1 0 rfl rfl ?_
      refine .as (d : Int) (by omega) (by simp only [mn]; omega) (by simp only [mx]; omega) ?_
      refine s1 0 rfl (by show 2 < 3; decide) ?_
      refine ⟨rfl, bk ?_⟩
      refine bk ?_
      refine ldN 5 rfl rfl ?_
      refine sN 4 rfl rfl (by simp [Value.oneCell']) ?_ (by kernel_rfl)
      refine ldN 4 rfl rfl ?_

      exact ⟨fun w' hs => list_end hs 1 6 rfl rfl hR he2 hz hkm hvl (.inl ⟨rfl, by rw [hspec, hq]; rfl⟩)⟩
    · refine ct rfl ?_
      have hkl' := hkl rfl
      obtain ⟨m, rfl⟩ : ∃ m, n = m + 1 := ⟨n - 1, by omega⟩
      refine CallP.mono (list_one hV (by omega) (by omega) hR he2) (fun u' L' hq2 => ?_)
      obtain ⟨j, cs, v2, bd, r', a', cc', A', ⟨hv2, hx⟩, hc5, hR', he', rfl, rfl⟩ := hq2
      dsimp only at hv2 hx
      have hl1 : (ks ++ [(j, cs)]).length = ks.length + 1 := by simp
      have hkm' : (ks ++ [(j, cs)]).length ≤ maxLen := by rw [hl1]; unfold maxLen; omega
      rw [← hl1] at hR' he'
      have hz' : ∀ y ∈ ks ++ [(j, cs)], y.2.length = 5 := fun y hy => by
        rcases List.mem_append.1 hy with hy | hy
        · exact hz y hy
        · obtain rfl : y = (j, cs) := by simpa using hy
          exact hc5
      have hv2l : v2.length ≤ (91 :: t).length := by simp; omega
      refine ld1 6 rfl rfl ?_
      refine ld1 0 rfl (v := .bool bd) rfl ?_
      rcases hx with ⟨hx, rfl⟩ | ⟨hx, rfl⟩
      · iterate 3 refine cf rfl ?_
        iterate 2 refine ct rfl ?_
        refine dfl (C := ⟨Tryd.prog, tab, _, [bl b], w, _⟩) tab_ok Tryd.func79 rfl Tryd.ntmps79 rfl rfl ?_
        refine ld1 6 rfl rfl ?_
        refine ld1 0 rfl rfl ?_
        refine .as (d : Int) (by omega) (by simp only [mn]; omega) (by simp only [mx]; omega) ?_
        refine s1 0 rfl (by show 2 < 3; decide) ?_
        refine ⟨rfl, bk ?_⟩
        refine bk ?_
        refine ldN 5 rfl rfl ?_
        refine sN 4 rfl rfl (by simp [Value.oneCell']) ?_ (by kernel_rfl)
        refine ldN 4 rfl rfl ?_

        exact ⟨fun w' hs => list_end hs 1 6 rfl rfl hR' he' hz' hkm' hv2l (.inl ⟨rfl, by rw [hspec, hq, itmG, hx]; rfl⟩)⟩
      · have hI : itmG V (m + 1) v = if (eatP 93 v2).1 then some ([j], (eatP 93 v2).2) else if (eatP 44 (eatP 93 v2).2).1 then (itmG V m (eatP 44 (eatP 93 v2).2).2).map fun p => (j :: p.1, p.2) else none := by rw [itmG, hx]
        have hle2 := eat_len 93 v2
        generalize hE2 : eatP 93 v2 = E at hle2 hI
        obtain ⟨e2, u2⟩ := E
        dsimp only at hle2 hI
        refine ct rfl ?_
        refine ld1 6 rfl rfl ?_
        iterate 2 refine ct rfl ?_
        refine cU1 0 rfl (v := .bool e2) (c := rdC u2 false ((d + 1 : Nat) : Int)) (fun w h => by have := eat_any (s := v2) 93 (by omega) h; rw [hE2] at this; exact this) ?_
        refine cf rfl ?_
        cases e2 with
        | true =>
          refine ct rfl ?_
          refine dfl (C := ⟨Tryd.prog, tab, _, [bl b], w, _⟩) tab_ok Tryd.func79 rfl Tryd.ntmps79 rfl rfl ?_
          refine ld1 6 rfl rfl ?_
          refine ld1 0 rfl rfl ?_
          refine .as (d : Int) (by omega) (by simp only [mn]; omega) (by simp only [mx]; omega) ?_
          refine s1 0 rfl (by show 2 < 3; decide) ?_
          refine ⟨rfl, bk ?_⟩
          refine bk ?_
          refine ldN 5 rfl rfl ?_
          refine sN 4 rfl rfl (by simp [Value.oneCell']) ?_ (by kernel_rfl)
          refine ldN 4 rfl rfl ?_

          exact ⟨fun w' hs => list_end hs 1 6 rfl rfl hR' he' hz' hkm' (by simp; omega) (.inr ⟨rfl, by rw [hspec, hq, hI]; simp⟩)⟩
        | false =>
          refine cf rfl ?_
          refine ld1 6 rfl rfl ?_
          have hle3 := eat_len 44 u2
          have hlt3 := eat_lt 44 u2
          generalize hE3 : eatP 44 u2 = E at hle3 hlt3 hI
          obtain ⟨e3, u3⟩ := E
          dsimp only at hle3 hlt3 hI
          refine cU1 0 rfl (v := .bool e3) (c := rdC u3 false ((d + 1 : Nat) : Int)) (fun w h => by have := eat_any (s := u2) 44 (by omega) h; rw [hE3] at this; exact this) ?_
          cases e3 with
          | true =>
            have hlt := hlt3 rfl
            refine cf rfl ?_
            exact ⟨⟨ks ++ [(j, cs)], r', a', cc', fun i => A i ∨ A' i, u3, false, m⟩, ⟨by dsimp only; omega, fun _ => by dsimp only; rw [hl1]; omega, by dsimp only; rw [hl1]; omega, by dsimp only; omega, hR', he', hz', .inr ⟨rfl, by rw [hq, hI]; simp only [List.map_append]; cases itmG V m u3 <;> simp⟩⟩, by dsimp only [cond]; omega, ⟨rfl, rfl, rfl, trivial⟩, .cons (.cons (.cons (.cons (.cons (.cons (.cons (.cons .nil))))))), rfl⟩
          | false =>
            refine ct rfl ?_
            refine ld1 6 rfl rfl ?_
            refine cU1 0 rfl (fun w h => fail_any h) ?_
            exact ⟨⟨ks ++ [(j, cs)], r', a', cc', fun i => A i ∨ A' i, u3, true, m + 1⟩, ⟨by dsimp only; omega, (fun h => by cases h), by dsimp only; rw [hl1]; omega, by dsimp only; omega, hR', he', hz', .inl ⟨rfl, by rw [hq, hI]; rfl⟩⟩, by dsimp only [cond]; omega, ⟨rfl, rfl, rfl, trivial⟩, .cons (.cons (.cons (.cons (.cons (.cons (.cons (.cons .nil))))))), rfl⟩
end
end Go.Proofs.YtpegkoklmhccjaaDoor
