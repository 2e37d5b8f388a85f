/- Chapter 12: what a value's cells say, whatever the world. -/
import Derived.Test.YtpegkoklmhccjaaDoorJsW
namespace Go.Proofs.YtpegkoklmhccjaaDoor
open Go.RowKit Go.Sx
set_option linter.unusedVariables false
/-- n things behind a slice -/
def SlOf (v : Value) (n : Nat) : Prop := n ≤ maxLen ∧ ∃ a cap, v = .slice a n cap ∧ (n ≠ 0 → ∃ b o, a = some ⟨b, o, none⟩)
theorem RowAt.sl {w : World} {A : Nat → Prop} {z n : Nat} {c : Nat → List Value} {v : Value} (h : RowAt w A z n c v) : SlOf v n := by
  obtain ⟨h1, a, cap, h2, h3⟩ := h
  exact ⟨h1, a, cap, h2, fun h0 => by obtain ⟨b, o, e, _⟩ := h3 h0; exact ⟨b, o, e⟩⟩
/-- the cells are such a value's -/
inductive CS : CT → JV → Prop
  | mk {k i : Int} {s : Bs} {vl vp : Value} {l : List CT} {p : List (Bs × CT)} {l' : List JV} {p' : List (Bs × JV)} (ll : l.length = l'.length) (lp : p.length = p'.length) (hl : SlOf vl l.length) (hp : SlOf vp p.length)
      (kl : ∀ (n : Nat) (c : CT) (j : JV), l[n]? = some c → l'[n]? = some j → CS c j) (kn : ∀ (n : Nat) (c : Bs × CT) (j : Bs × JV), p[n]? = some c → p'[n]? = some j → c.1 = j.1) (kp : ∀ (n : Nat) (c : Bs × CT) (j : Bs × JV), p[n]? = some c → p'[n]? = some j → CS c.2 j.2) : CS (.mk k i s vl vp l p) (.mk k i s l' p')
theorem Rt.cs {w : World} {A : Nat → Prop} {c : CT} {j : JV} (h : Rt w A c j) : CS c j := by
  induction h with
  | mk ll lp hl hp kl kn kp ihl ihp => exact .mk ll lp hl.sl hp.sl ihl kn ihp
/-- a part that is read, and its cells -/
theorem Rt.item {w : World} {A : Nat → Prop} {k i : Int} {s : Bs} {vl vp : Value} {l : List CT} {p : List (Bs × CT)} {j : JV} (h : Rt w A (.mk k i s vl vp l p) j) {b o n cap : Nat} {m : Nat} (hv : vl = .slice (some ⟨b, o, none⟩) n cap) {c : CT} (hc : l[m]? = some c) : w.rangeAt b (o + m * 5) c.cs := by
  cases h with
  | mk ll lp hl hp kl kn kp =>
    have hm := (List.getElem?_eq_some_iff.1 hc).1
    obtain ⟨_, a, cap', e, hr⟩ := hl
    rw [hv] at e
    injection e with e1 e2 e3
    obtain ⟨b', o', e4, _, hr⟩ := hr (by omega)
    rw [← e1] at e4
    injection e4 with e4
    injection e4 with e5 e6
    subst e5 e6
    have := (hr m hm).2
    unfold CT.nth at this
    rw [hc] at this
    exact this
/-- Parse, as a call in a walk -/
theorem cParse {N : Nat} {M : Bks} {B : World} {F : Option Nat} {L : List Ent} {v : Value} {l : Bs} {next : Value → List Ent → Prop} (kl : Nat) (hkl : L[kl]? = some (rs laidR)) (hm : l.length ≤ maxLen) (hv : ∀ w, St M B w L → Rd w v (Lib.byteCells l))
    (go : ∀ x : PT, PTF l x → CS x.c x.j → next (.tuple #[.agg x.c.cs.toArray, errV x.code]) (L ++ [rs (ownT x.A x.c x.j)])) : CallP ⟨Tryd.prog, tab, N, M, B, F⟩ 14 [v] L next :=
  cM (C := ⟨Tryd.prog, tab, N, M, B, F⟩) (α := PT) (Φ := fun x => PTF l x ∧ CS x.c x.j) (v := fun x => .tuple #[.agg x.c.cs.toArray, errV x.code]) (r' := fun x => ownT x.A x.c x.j)
    (fun w hs => (parse_ct v l hm w (hv w hs) (hs.res hkl)).mono fun e w' ⟨x, hx, he, hb, hA, hH⟩ => ⟨x, ⟨hx, hH.2.cs⟩, he, hb, hH, hA, fun k hk => hk.elim⟩) fun x hx => go x hx.1 hx.2
end Go.Proofs.YtpegkoklmhccjaaDoor
