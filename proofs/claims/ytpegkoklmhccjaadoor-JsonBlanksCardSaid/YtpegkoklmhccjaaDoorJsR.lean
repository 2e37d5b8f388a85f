/- Chapter 12: the reader: lists and objects that stand too deep. -/
import Derived.Test.YtpegkoklmhccjaaDoorJsQ
namespace Go.Proofs.YtpegkoklmhccjaaDoor
open Go.RowKit Go.Sx
set_option linter.unusedVariables false
section
variable {b : Nat} {t : Bs} {d : Nat} {w : World}
set_option maxRecDepth 100000 in
theorem list_deep (hd : d = 8) (hl : t.length < 100000) (h : w.heap[b]? = some (.cells (rdC (91 :: t) false d) TRd (0, 0))) (hw : Laid w) : ValC 50 [pj b] none (91 :: t) b d w := by
  refine enterVC tab_ok Tryd.func50 rfl Tryd.ntmps50 rfl (St.rdH h hw) ?_
  intro b1 b2
  refine bu (c := valC 4 0 []) rfl ?_
  intro b3
  refine sN 5 rfl rfl (by simp [Value.oneCell']) ?_ (by kernel_rfl)
  refine ld1 3 rfl rfl ?_
  refine inl (C := ⟨Tryd.prog, tab, _, [bl b], w, _⟩) tab_ok Tryd.func66 rfl Tryd.ntmps66 rfl ?_
  intro b4
  refine ld1 6 rfl rfl ?_
  refine ld1 0 rfl rfl ?_
  refine .as ((d + 1 : Nat) : Int) (by omega) (by simp only [mn]; omega) (by simp only [mx]; omega) ?_
  refine s1 0 rfl (by show 2 < 3; decide) ?_
  refine ld1 6 rfl rfl ?_
  have he : eatP 91 (91 :: t) = (true, t) := eat_open 91 (by decide) t
  refine cU1 0 rfl (v := .bool true) (c := rdC t false ((d + 1 : Nat) : Int)) (fun w h => by have := eat_any (s := 91 :: t) 91 (by simp; omega) h; rw [he] at this; exact this) ?_
  iterate 1 refine ct rfl ?_
  refine ld1 6 rfl rfl ?_
  iterate 3 refine ct rfl ?_
  refine ld1 0 rfl rfl ?_
  refine ct rfl ?_
  refine cf rfl ?_
  refine ct (decide_eq_true (by omega)) ?_
  refine ld1 6 rfl rfl ?_
  refine cU1 0 rfl (fun w h => fail_any h) ?_
  refine ld1 6 rfl rfl ?_
  have hle := eat_len 93 t
  generalize hE : eatP 93 t = E at hle
  obtain ⟨e1, u⟩ := E
  dsimp only at hle
  refine cU1 0 rfl (v := .bool e1) (c := rdC u true ((d + 1 : Nat) : Int)) (fun w h => by have := eat_any (s := t) 93 (by omega) h; rw [hE] at this; exact this) ?_
  cases e1 with
  | true =>
    refine ct rfl ?_
    refine dfl (C := ⟨Tryd.prog, tab, _, [bl b], w, _⟩) tab_ok Tryd.func79 rfl Tryd.ntmps79 rfl rfl ?_
    refine ld1 6 rfl rfl ?_
    refine ld1 0 rfl rfl ?_
    refine .as (d : Int) (by omega) (by simp only [mn]; omega) (by simp only [mx]; omega) ?_
    refine s1 0 rfl (by show 2 < 3; decide) ?_
    refine ⟨rfl, bk ?_⟩
    refine bk ?_
    refine ldN 5 rfl rfl ?_
    refine sN 4 rfl rfl (by simp [Value.oneCell']) ?_ (by kernel_rfl)
    refine ldN 4 rfl rfl ?_

    exact ⟨fun w' hs => list_end hs.deads 1 6 (r := none) (ks := []) rfl rfl (Rw.nil 5) rfl (fun y hy => by simp at hy) (by decide) (by simp; omega) (.inl ⟨rfl, rfl⟩)⟩
  | false =>
    refine cf rfl ?_
    refine lp tab_ok (fun _ : Unit => True) (fun _ => ⟨[(4, pj b4)], [cl b (rdC u true ((d + 1 : Nat) : Int)) TRd, rs laidR, rs (heldR (fun _ => False) []), cl b1 #[pj b] 58, cl b2 (valC 0 0 []) TV, cl b3 (valC 4 0 []) TV, cl b4 #[pj b] 58], [⟨.fn (.func 79) #[pj b4], #[]⟩]⟩) (fun _ => 0) () trivial ⟨⟨rfl, trivial⟩, .cons (.cons (.cons (.cons (.cons (.cons (.cons .nil)))))), rfl⟩ ?_
    rintro ⟨⟩ _
    refine ld1 6 rfl rfl ?_
    refine ld1 0 rfl (v := .bool true) rfl ?_
    refine cf rfl ?_
    refine dfl (C := ⟨Tryd.prog, tab, _, [bl b], w, _⟩) tab_ok Tryd.func79 rfl Tryd.ntmps79 rfl rfl ?_
    refine ld1 6 rfl rfl ?_
    refine ld1 0 rfl rfl ?_
    refine .as (d : Int) (by omega) (by simp only [mn]; omega) (by simp only [mx]; omega) ?_
    refine s1 0 rfl (by show 2 < 3; decide) ?_
    refine ⟨rfl, bk ?_⟩
    refine bk ?_
    refine ldN 5 rfl rfl ?_
    refine sN 4 rfl rfl (by simp [Value.oneCell']) ?_ (by kernel_rfl)
    refine ldN 4 rfl rfl ?_

    exact ⟨fun w' hs => list_end hs.deads 1 6 (r := none) (ks := []) rfl rfl (Rw.nil 5) rfl (fun y hy => by simp at hy) (by decide) (by simp; omega) (.inl ⟨rfl, rfl⟩)⟩
end
section
variable {b : Nat} {t : Bs} {d : Nat} {w : World}
set_option maxRecDepth 100000 in
set_option maxHeartbeats 4000000 in
theorem object_deep (hd : d = 8) (hl : t.length < 100000) (h : w.heap[b]? = some (.cells (rdC (123 :: t) false d) TRd (0, 0))) (hw : Laid w) : ValC 51 [pj b] none (123 :: t) b d w := by
  refine enterVC tab_ok Tryd.func51 rfl Tryd.ntmps51 rfl (St.rdH h hw) ?_
  intro b1 b2
  refine bu (c := valC 5 0 []) rfl ?_
  intro b3
  refine sN 5 rfl rfl (by simp [Value.oneCell']) ?_ (by kernel_rfl)
  refine mkm (keS : Bs → Value) (fun bm => ?_)
  intro b4
  refine s1 7 rfl (by show 0 < 1; decide) ?_
  refine ld1 3 rfl rfl ?_
  refine inl (C := ⟨Tryd.prog, tab, _, [bl b], w, _⟩) tab_ok Tryd.func66 rfl Tryd.ntmps66 rfl ?_
  intro b5
  refine ld1 8 rfl rfl ?_
  refine ld1 0 rfl rfl ?_
  refine .as ((d + 1 : Nat) : Int) (by omega) (by simp only [mn]; omega) (by simp only [mx]; omega) ?_
  refine s1 0 rfl (by show 2 < 3; decide) ?_
  refine ld1 8 rfl rfl ?_
  have he : eatP 123 (123 :: t) = (true, t) := eat_open 123 (by decide) t
  refine cU1 0 rfl (v := .bool true) (c := rdC t false ((d + 1 : Nat) : Int)) (fun w h => by have := eat_any (s := 123 :: t) 123 (by simp; omega) h; rw [he] at this; exact this) ?_
  iterate 1 refine ct rfl ?_
  refine ld1 8 rfl rfl ?_
  iterate 3 refine ct rfl ?_
  refine ld1 0 rfl rfl ?_
  refine ct rfl ?_
  refine cf rfl ?_
  refine ct (decide_eq_true (by omega)) ?_
  refine ld1 8 rfl rfl ?_
  refine cU1 0 rfl (fun w h => fail_any h) ?_
  refine ld1 8 rfl rfl ?_
  have hle := eat_len 125 t
  generalize hE : eatP 125 t = E at hle
  obtain ⟨e1, u⟩ := E
  dsimp only at hle
  refine cU1 0 rfl (v := .bool e1) (c := rdC u true ((d + 1 : Nat) : Int)) (fun w h => by have := eat_any (s := t) 125 (by omega) h; rw [hE] at this; exact this) ?_
  cases e1 with
  | true =>
    refine ct rfl ?_
    refine dfl (C := ⟨Tryd.prog, tab, _, [bl b], w, _⟩) tab_ok Tryd.func79 rfl Tryd.ntmps79 rfl rfl ?_
    refine ld1 8 rfl rfl ?_
    refine ld1 0 rfl rfl ?_
    refine .as (d : Int) (by omega) (by simp only [mn]; omega) (by simp only [mx]; omega) ?_
    refine s1 0 rfl (by show 2 < 3; decide) ?_
    refine ⟨rfl, bk ?_⟩
    refine bk ?_
    refine ldN 5 rfl rfl ?_
    refine sN 4 rfl rfl (by simp [Value.oneCell']) ?_ (by kernel_rfl)
    refine ldN 4 rfl rfl ?_

    exact ⟨fun w' hs => object_end hs.deads 1 8 (r := none) (ks := []) rfl rfl (Rw.nil 6) rfl (fun y hy => by simp at hy) (by decide) (by simp; omega) (.inl ⟨rfl, rfl⟩)⟩
  | false =>
    refine cf rfl ?_
    refine lp tab_ok (fun _ : Unit => True) (fun _ => ⟨[(4, pj b5)], [cl b (rdC u true ((d + 1 : Nat) : Int)) TRd, rs laidR, rs (heldR (fun _ => False) []), cl b1 #[pj b] 58, cl b2 (valC 0 0 []) TV, cl b3 (valC 5 0 []) TV, me bm (keS : Bs → Value) [] 0, cl b4 #[.map (some bm)] TMb, cl b5 #[pj b] 58], [⟨.fn (.func 79) #[pj b5], #[]⟩]⟩) (fun _ => 0) () trivial ⟨⟨rfl, trivial⟩, .cons (.cons (.cons (.cons (.cons (.cons (.cons (.cons (.cons .nil)))))))), rfl⟩ ?_
    rintro ⟨⟩ _
    refine ld1 8 rfl rfl ?_
    refine ld1 0 rfl (v := .bool true) rfl ?_
    refine cf rfl ?_
    refine dfl (C := ⟨Tryd.prog, tab, _, [bl b], w, _⟩) tab_ok Tryd.func79 rfl Tryd.ntmps79 rfl rfl ?_
    refine ld1 8 rfl rfl ?_
    refine ld1 0 rfl rfl ?_
    refine .as (d : Int) (by omega) (by simp only [mn]; omega) (by simp only [mx]; omega) ?_
    refine s1 0 rfl (by show 2 < 3; decide) ?_
    refine ⟨rfl, bk ?_⟩
    refine bk ?_
    refine ldN 5 rfl rfl ?_
    refine sN 4 rfl rfl (by simp [Value.oneCell']) ?_ (by kernel_rfl)
    refine ldN 4 rfl rfl ?_

    exact ⟨fun w' hs => object_end hs.deads 1 8 (r := none) (ks := []) rfl rfl (Rw.nil 6) rfl (fun y hy => by simp at hy) (by decide) (by simp; omega) (.inl ⟨rfl, rfl⟩)⟩
end
end Go.Proofs.YtpegkoklmhccjaaDoor
