/- Chapter 12: values with the slices that hold their parts. -/
import Derived.Test.YtpegkoklmhccjaaDoorJsU
namespace Go.Proofs.YtpegkoklmhccjaaDoor
open Go.RowKit Go.Sx
set_option linter.unusedVariables false
/-- a value, and where its parts lie -/
inductive CT where
  | mk (k i : Int) (s : Bs) (vl vp : Value) (l : List CT) (p : List (Bs × CT))
def CT.cs : CT → List Value
  | .mk k i s vl vp _ _ => vcl k i s vl vp
def CT.nth (l : List CT) (n : Nat) : List Value := ((l[n]?).map CT.cs).getD []
def CT.pth (p : List (Bs × CT)) (n : Nat) : List Value := sj (((p[n]?).map (·.1)).getD []) :: ((p[n]?).map fun q => CT.cs q.2).getD []
/-- it lies so, and it says so -/
inductive Rt (w : World) (A : Nat → Prop) : CT → JV → Prop
  | mk {k i : Int} {s : Bs} {vl vp : Value} {l : List CT} {p : List (Bs × CT)} {l' : List JV} {p' : List (Bs × JV)} (ll : l.length = l'.length) (lp : p.length = p'.length) (hl : RowAt w A 5 l.length (CT.nth l) vl) (hp : RowAt w A 6 p.length (CT.pth p) vp)
      (kl : ∀ (n : Nat) (c : CT) (j : JV), l[n]? = some c → l'[n]? = some j → Rt w A c j) (kn : ∀ (n : Nat) (c : Bs × CT) (j : Bs × JV), p[n]? = some c → p'[n]? = some j → c.1 = j.1) (kp : ∀ (n : Nat) (c : Bs × CT) (j : Bs × JV), p[n]? = some c → p'[n]? = some j → Rt w A c.2 j.2) : Rt w A (.mk k i s vl vp l p) (.mk k i s l' p')
theorem Rt.to {w w' : World} {A A' : Nat → Prop} {c : CT} {j : JV} (h : Rt w A c j) (ha : ∀ k, A k → A' k) (hw : ∀ k, A k → w'.heap[k]? = w.heap[k]?) : Rt w' A' c j := by
  induction h with
  | mk ll lp hl hp kl kn kp ihl ihp => exact .mk ll lp (hl.to ha hw) (hp.to ha hw) ihl kn ihp
theorem RowAt.ext {w : World} {A : Nat → Prop} {z n : Nat} {c d : Nat → List Value} {v : Value} (h : RowAt w A z n c v) (hc : ∀ i, i < n → d i = c i) : RowAt w A z n d v := by
  obtain ⟨hn, a, cap, hv, h⟩ := h
  refine ⟨hn, a, cap, hv, fun h0 => ?_⟩
  obtain ⟨b, o, e, hA, hr⟩ := h h0
  exact ⟨b, o, e, hA, fun i hi => by rw [hc i hi]; exact hr i hi⟩
theorem Rt.rv {w : World} {A : Nat → Prop} {c : CT} {j : JV} (h : Rt w A c j) : Rv w A j c.cs := by
  induction h with
  | @mk k i s vl vp l p l' p' ll lp hl hp kl kn kp ihl ihp =>
    refine .mk (CT.nth l) (fun n => ((p[n]?).map fun q => CT.cs q.2).getD []) (ll ▸ hl) (lp ▸ hp.ext fun n hn => ?_) (fun n j hj => ?_) (fun n q hq => ?_)
    · have h1 : p[n]? = some p[n] := List.getElem?_eq_getElem hn
      have h2 : p'[n]? = some (p'[n]'(by omega)) := List.getElem?_eq_getElem (by omega)
      unfold pcl CT.pth
      rw [h1, h2]
      simp [h1, kn n _ _ h1 h2]
    · have hn : n < l.length := by have := (List.getElem?_eq_some_iff.1 hj).1; omega
      have h1 : l[n]? = some l[n] := List.getElem?_eq_getElem hn
      have := ihl n _ j h1 hj
      unfold CT.nth; rw [h1]; exact this
    · have hn : n < p.length := by have := (List.getElem?_eq_some_iff.1 hq).1; omega
      have h1 : p[n]? = some p[n] := List.getElem?_eq_getElem hn
      have := ihp n _ q h1 hq
      rw [h1]; exact this
theorem list_of {α β : Type} (l : List α) : ∀ (R : Nat → α → β → Prop), (∀ (n : Nat) (a : α), l[n]? = some a → ∃ b, R n a b) → ∃ m : List β, m.length = l.length ∧ ∀ (n : Nat) (a : α) (b : β), l[n]? = some a → m[n]? = some b → R n a b := by
  induction l with
  | nil => intro R _; exact ⟨[], rfl, fun n a b h => by simp at h⟩
  | cons a l ih =>
    intro R h
    obtain ⟨b, hb⟩ := h 0 a rfl
    obtain ⟨m, h1, h2⟩ := ih (fun n => R (n + 1)) fun n x hx => h (n + 1) x (by simpa using hx)
    refine ⟨b :: m, by simp [h1], fun n x y hx hy => ?_⟩
    cases n with
    | zero =>
      obtain rfl : a = x := by simpa using hx
      obtain rfl : b = y := by simpa using hy
      exact hb
    | succ n => exact h2 n x y (by simpa using hx) (by simpa using hy)
theorem Rv.ct {w : World} {A : Nat → Prop} {j : JV} {cs : List Value} (h : Rv w A j cs) : ∃ c : CT, c.cs = cs ∧ Rt w A c j := by
  induction h with
  | @mk k i s l p vl vp c e hl hp kl kp ihl ihp =>
    obtain ⟨L, hL1, hL2⟩ := list_of l (fun n j ct => CT.cs ct = c n ∧ Rt w A ct j) ihl
    obtain ⟨P, hP1, hP2⟩ := list_of p (fun n q (x : Bs × CT) => x.1 = q.1 ∧ x.2.cs = e n ∧ Rt w A x.2 q.2) (fun n q hq => by
      obtain ⟨ct, h1, h2⟩ := ihp n q hq
      exact ⟨(q.1, ct), rfl, h1, h2⟩)
    refine ⟨.mk k i s vl vp L P, rfl, .mk hL1 hP1 (hL1 ▸ hl.ext fun n hn => ?_) (hP1 ▸ hp.ext fun n hn => ?_) (fun n c j h1 h2 => (hL2 n j c h2 h1).2) (fun n c j h1 h2 => (hP2 n j c h2 h1).1) (fun n c j h1 h2 => (hP2 n j c h2 h1).2.2)⟩
    · have h1 : l[n]? = some l[n] := List.getElem?_eq_getElem hn
      have h2 : L[n]? = some (L[n]'(by omega)) := List.getElem?_eq_getElem (by omega)
      unfold CT.nth
      rw [h2]
      exact (hL2 n _ _ h1 h2).1
    · have h1 : p[n]? = some p[n] := List.getElem?_eq_getElem hn
      have h2 : P[n]? = some (P[n]'(by omega)) := List.getElem?_eq_getElem (by omega)
      obtain ⟨k1, k2, _⟩ := hP2 n _ _ h1 h2
      unfold CT.pth pcl
      rw [h1, h2]
      simp [k1, k2]
def HeldT (w : World) (A : Nat → Prop) (c : CT) (j : JV) : Prop := (∀ k, A k → k < w.heap.size) ∧ Rt w A c j
theorem HeldT.to {w w' : World} {A : Nat → Prop} {c : CT} {j : JV} (h : HeldT w A c j) (hw : ∀ k, A k → w'.heap[k]? = w.heap[k]?) : HeldT w' A c j :=
  ⟨fun k hk => by
      have e := hw k hk
      rw [Array.getElem?_eq_getElem (h.1 k hk)] at e
      exact (Array.getElem?_eq_some_iff.1 e).1, h.2.to (fun _ h => h) hw⟩
/-- a value that one owns; one that one reads -/
def ownT (A : Nat → Prop) (c : CT) (j : JV) : Res where
  w := A
  r := fun _ => False
  p := fun w => HeldT w A c j
  st := fun u v h hp => hp.to fun k hk => h k (.inl hk)
  bd := fun u h k hk => hk.elim (h.1 k) fun h => h.elim
def rdT (A : Nat → Prop) (c : CT) (j : JV) : Res where
  w := fun _ => False
  r := A
  p := fun w => HeldT w A c j
  st := fun u v h hp => hp.to fun k hk => h k (.inr hk)
  bd := fun u h k hk => hk.elim (fun h => h.elim) (h.1 k)
/-- Parse, its value with the places of its parts -/
structure PT where
  c : CT
  j : JV
  code : Nat
  A : Nat → Prop
def PTF (l : Bs) (x : PT) : Prop := (4096 < l.length ∧ x.code = 10 ∧ x.j = .mk 0 0 [] [] []) ∨ (l.length ≤ 4096 ∧ parseP l = none ∧ x.code = 1 ∧ x.j = .mk 0 0 [] [] []) ∨ (l.length ≤ 4096 ∧ parseP l = some x.j ∧ x.code = 0)
theorem parse_ct (v : Value) (l : Bs) (hm : l.length ≤ maxLen) (w : World) (hv : Rd w v (Lib.byteCells l)) (hw : Laid w) : Calls Tryd.prog 14 ([v] : List Value).toArray w fun e w' => ∃ x : PT, PTF l x ∧ e = .returned (.tuple #[.agg x.c.cs.toArray, errV x.code]) ∧ Below w.heap.size w w' ∧ (∀ k, x.A k → w.heap.size ≤ k) ∧ HeldT w' x.A x.c x.j :=
  (parse_any v l hm w hv hw).mono fun e w' ⟨x, hx, he, hb, A, hA, hH⟩ => by
    obtain ⟨c, h1, h2⟩ := (hH.2 _ (List.mem_singleton.2 rfl)).ct
    exact ⟨⟨c, x.j, x.code, A⟩, hx, by rw [he, h1], hb, hA, hH.1, h2⟩
end Go.Proofs.YtpegkoklmhccjaaDoor
