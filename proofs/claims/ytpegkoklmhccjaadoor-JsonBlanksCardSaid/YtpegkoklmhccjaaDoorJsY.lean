/- Chapter 12: alive. -/
import Derived.Test.YtpegkoklmhccjaaDoorJsX
namespace Go.Proofs.YtpegkoklmhccjaaDoor
open Go.RowKit Go.Sx
set_option linter.unusedVariables false
def tx1 : Bs := [123, 34, 97, 34, 58, 32, 91, 49, 44, 32, 45, 50, 44, 32, 34, 92, 117, 48, 48, 101, 57, 34, 93, 125]
def tx2 : Bs := [91, 48, 49, 93]
def jv1 : JV := .mk 5 0 [] [] [([97], .mk 4 0 [] [.mk 2 1 [] [] [], .mk 2 (-2) [] [] [], .mk 3 0 [195, 169] [] []] [])]
theorem parse1 : parseP tx1 = some jv1 := by kernel_rfl
theorem parse2 : parseP tx2 = none := by kernel_rfl
theorem bsT1 (w : World) : (Instr.buildSlice 38 24 #[(0, .int .u8 123), (1, .int .u8 34), (2, .int .u8 97), (3, .int .u8 34), (4, .int .u8 58), (5, .int .u8 32), (6, .int .u8 91), (7, .int .u8 49), (8, .int .u8 44), (9, .int .u8 32), (10, .int .u8 45), (11, .int .u8 50), (12, .int .u8 44), (13, .int .u8 32), (14, .int .u8 34), (15, .int .u8 92), (16, .int .u8 117), (17, .int .u8 48), (18, .int .u8 48), (19, .int .u8 101), (20, .int .u8 57), (21, .int .u8 34), (22, .int .u8 93), (23, .int .u8 125)]).run Tryd.prog w = .ok (.slice (some ⟨w.heap.size, 0, none⟩) 24 24) (w.alloc (.cells (Lib.byteCells tx1).toArray 5)) := by
  obtain ⟨i, hi, hz, hs, hb⟩ := infoOf info5
  exact run_buildSlice w _ _ 24 _ (Lib.byteCells tx1).toArray i (.int .u8 0) und22 hi hz (by rw [hs]; decide) (by rw [hs]; decide) (by rw [hs]; kernel_rfl)
theorem bsT2 (w : World) : (Instr.buildSlice 38 4 #[(0, .int .u8 91), (1, .int .u8 48), (2, .int .u8 49), (3, .int .u8 93)]).run Tryd.prog w = .ok (.slice (some ⟨w.heap.size, 0, none⟩) 4 4) (w.alloc (.cells (Lib.byteCells tx2).toArray 5)) := by
  obtain ⟨i, hi, hz, hs, hb⟩ := infoOf info5
  exact run_buildSlice w _ _ 4 _ (Lib.byteCells tx2).toArray i (.int .u8 0) und22 hi hz (by rw [hs]; decide) (by rw [hs]; decide) (by rw [hs]; kernel_rfl)
theorem CS.inv {c : CT} {k i : Int} {s : Bs} {l' : List JV} {p' : List (Bs × JV)} (h : CS c (.mk k i s l' p')) : ∃ vl vp l p, c = .mk k i s vl vp l p ∧ l.length = l'.length ∧ p.length = p'.length ∧ SlOf vl l.length ∧ SlOf vp p.length ∧ (∀ (n : Nat) (c : CT) (j : JV), l[n]? = some c → l'[n]? = some j → CS c j) ∧ (∀ (n : Nat) (c : Bs × CT) (j : Bs × JV), p[n]? = some c → p'[n]? = some j → c.1 = j.1) ∧ (∀ (n : Nat) (c : Bs × CT) (j : Bs × JV), p[n]? = some c → p'[n]? = some j → CS c.2 j.2) := by
  cases h with
  | mk ll lp hl hp kl kn kp => exact ⟨_, _, _, _, rfl, ll, lp, hl, hp, kl, kn, kp⟩
theorem CS.one {c : CT} {j : JV} (h : CS c j) : c.cs.all (·.oneCell') = true := by
  cases h with
  | mk ll lp hl hp kl kn kp =>
    obtain ⟨_, a, cap, rfl, _⟩ := hl
    obtain ⟨_, a, cap, rfl, _⟩ := hp
    rfl
theorem c1_shape {c : CT} (h : CS c jv1) : ∃ vl a cap b o cap1 vp1 d0 x1 y1 l1 p1 x2 y2 l2 p2, c = .mk 5 0 [] vl (.slice a 1 cap) [] [([97], .mk 4 0 [] (.slice (some ⟨b, o, none⟩) 3 cap1) vp1 [d0, .mk 2 (-2) [] x1 y1 l1 p1, .mk 3 0 [195, 169] x2 y2 l2 p2] [])] ∧ (CT.cs (CT.mk 4 0 [] (.slice (some ⟨b, o, none⟩) 3 cap1) vp1 [d0, .mk 2 (-2) [] x1 y1 l1 p1, .mk 3 0 [195, 169] x2 y2 l2 p2] [])).all (·.oneCell') = true := by
  obtain ⟨vl, vp, l, p, rfl, h1, h2, h3, h4, _, hkn, hkp⟩ := h.inv
  obtain rfl : l = [] := List.eq_nil_of_length_eq_zero h1
  obtain ⟨q, rfl⟩ : ∃ q, p = [q] := List.length_eq_one_iff.1 h2
  obtain ⟨nm, c1⟩ := q
  have hn : nm = [97] := hkn 0 _ _ rfl rfl
  subst hn
  have hc1 := hkp 0 _ _ rfl rfl
  obtain ⟨_, a, cap, rfl, _⟩ := h4
  have hq1 := hc1.one
  obtain ⟨vl1, vp1, l1, p1, e, k1, k2, k3, k4, kk, _, _⟩ := CS.inv hc1
  dsimp only at e
  subst e
  obtain rfl : p1 = [] := List.eq_nil_of_length_eq_zero k2
  obtain ⟨d0, d1, d2, rfl⟩ : ∃ d0 d1 d2, l1 = [d0, d1, d2] := by
    match l1, k1 with
    | [d0, d1, d2], _ => exact ⟨d0, d1, d2, rfl⟩
  obtain ⟨_, a1, cap1, rfl, k5⟩ := k3
  obtain ⟨b, o, rfl⟩ := k5 (by simp)
  obtain ⟨x1, y1, l1, p1, rfl, _⟩ := (kk 1 _ _ rfl rfl).inv
  obtain ⟨x2, y2, l2, p2, rfl, _⟩ := (kk 2 _ _ rfl rfl).inv
  exact ⟨vl, a, cap, b, o, cap1, vp1, d0, x1, y1, l1, p1, x2, y2, l2, p2, rfl, hq1⟩
theorem cell1 {w : World} {A : Nat → Prop} {vl : Value} {a : Option Addr} {cap b o cap1 : Nat} {vp1 : Value} {L : List CT} (h : HeldT w A (.mk 5 0 [] vl (.slice a 1 cap) [] [([97], .mk 4 0 [] (.slice (some ⟨b, o, none⟩) 3 cap1) vp1 L [])]) jv1) {m f : Nat} {d : CT} {v : Value} (hd : L[m]? = some d) (hv : d.cs[f]? = some v) : w.cell? ⟨b, o + m * 5 + f, none⟩ = some v := by
  have h2 := h.2
  cases h2 with
  | mk ll lp hl hp kl kn kp => exact Rt.item (kp 0 _ _ rfl rfl) rfl hd f v hv
set_option maxRecDepth 100000 in
theorem alive_any (w : World) (hw : Laid w) : Calls Tryd.prog 8 ([] : List Value).toArray w fun e w' => e = .returned (.bool true) ∧ Below w.heap.size w w' := by
  refine enterV tab_ok Tryd.func8 rfl Tryd.ntmps8 rfl (St.laid hw) ?_
  refine .mk _ _ bsT1 (fun b8 => ?_)
  refine cvB 1 und22 undU8 rfl ?_
  refine cParse (l := tx1) 0 rfl (by decide) (fun w hs => Rd.ent hs 1 rfl rfl rfl) (fun x hx hcs => ?_)
  obtain ⟨c, j, code, A⟩ := x
  have hx' : j = jv1 ∧ code = 0 := by
    rcases hx with ⟨h, _⟩ | ⟨_, h, _⟩ | ⟨_, h, h2⟩
    · exact absurd h (by decide)
    · rw [parse1] at h; cases h
    · rw [parse1] at h; exact ⟨(Option.some.inj h).symm, h2⟩
  obtain ⟨rfl, rfl⟩ := hx'
  dsimp only at hcs ⊢
  have hc5 := c.cs5
  obtain ⟨vl, a, cap, b, o, cap1, vp1, d0, x1, y1, l1, p1, x2, y2, l2, p2, rfl, hone1⟩ := c1_shape hcs
  have hone := hcs.one
  intro b1
  refine sN 3 rfl rfl (by simpa using hone) ?_ (by kernel_rfl)
  refine .mk _ _ bsT2 (fun b14 => ?_)
  refine cvB 4 und22 undU8 rfl ?_
  refine cParse (l := tx2) 0 rfl (by decide) (fun w hs => Rd.ent hs 4 rfl rfl rfl) (fun x hx hcs2 => ?_)
  obtain ⟨c2, j2, code2, A2⟩ := x
  have hx' : code2 = 1 := by
    rcases hx with ⟨h, _⟩ | ⟨_, h, h2, _⟩ | ⟨_, h, h2⟩
    · exact absurd h (by decide)
    · exact h2
    · rw [parse2] at h; cases h
  subst hx'
  dsimp only at hcs2 ⊢
  intro b3
  refine sN 6 rfl (by rw [List.size_toArray, c2.cs5]; rfl) (by simpa using hcs2.one) ?_ (by rw [List.size_toArray, c2.cs5]; kernel_rfl)
  iterate 2 refine ct rfl ?_
  refine cv (fun w => is_any 1 1 w) ?_
  refine ct rfl ?_
  refine cf rfl ?_
  iterate 2 refine ct rfl ?_
  refine ld1 3 rfl (v := .slice a 1 cap) rfl ?_
  iterate 2 refine ct rfl ?_
  refine cf rfl ?_
  refine cf rfl ?_
  refine ldN 3 rfl rfl ?_
  refine cvs (v := getV (some (CT.mk 4 0 [] (.slice (some ⟨b, o, none⟩) 3 cap1) vp1 [d0, .mk 2 (-2) [] x1 y1 l1 p1, .mk 3 0 [195, 169] x2 y2 l2 p2] []))) (fun w hs => get_any A _ jv1 [97] w (hs.res (k := 2) rfl)) ?_
  intro b5
  refine sN 7 rfl rfl (by simpa using hone1) ?_ (by kernel_rfl)
  iterate 2 refine ct rfl ?_
  refine ld1 7 rfl rfl ?_
  iterate 2 refine ct rfl ?_
  refine ct rfl ?_
  iterate 2 refine ct rfl ?_
  refine ld1 7 rfl rfl ?_
  refine ct rfl ?_
  refine ⟨by decide, by decide, ?_⟩
  iterate 2 refine ct rfl ?_
  refine .mk (.int .i64 (-2)) (fun w hs => ?_) ?_
  · have := cell1 (hs.res (k := 2) rfl : HeldT w A _ jv1) (m := 1) (f := 1) rfl rfl
    rw [nad_eq, nad_eq, nmu_eq]; exact this
  refine ct rfl ?_
  refine ct rfl ?_
  iterate 2 refine ct rfl ?_
  refine ld1 7 rfl rfl ?_
  refine ct rfl ?_
  refine ⟨by decide, by decide, ?_⟩
  iterate 2 refine ct rfl ?_
  refine .mk (sj [195, 169]) (fun w hs => ?_) ?_
  · have := cell1 (hs.res (k := 2) rfl : HeldT w A _ jv1) (m := 2) (f := 2) rfl rfl
    rw [nad_eq, nad_eq, nmu_eq]; exact this
  refine ct rfl ?_
  refine ct rfl ?_
  exact rt (congrArg Value.bool (by simp))
end Go.Proofs.YtpegkoklmhccjaaDoor
