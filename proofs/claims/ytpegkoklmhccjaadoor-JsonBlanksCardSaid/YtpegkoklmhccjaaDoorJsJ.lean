/- Chapter 12: values, and how they lie. -/
import Derived.Test.YtpegkoklmhccjaaDoorJsI
namespace Go.Proofs.YtpegkoklmhccjaaDoor
open Go.RowKit Go.Sx
set_option linter.unusedVariables false
/-- a value: kind, number, text, list, pairs -/
inductive JV where
  | mk (k i : Int) (s : Bs) (l : List JV) (p : List (Bs × JV))
abbrev vcl (k i : Int) (s : Bs) (vl vp : Value) : List Value := [.int .i64 k, .int .i64 i, sj s, vl, vp]
/-- n things of z cells lie where a slice says -/
def RowAt (w : World) (A : Nat → Prop) (z n : Nat) (c : Nat → List Value) (v : Value) : Prop :=
  n ≤ maxLen ∧ ∃ a cap, v = .slice a n cap ∧ (n ≠ 0 → ∃ b o, a = some ⟨b, o, none⟩ ∧ A b ∧ ∀ i, i < n → (c i).length = z ∧ w.rangeAt b (o + i * z) (c i))
def pcl (p : List (Bs × JV)) (c : Nat → List Value) (n : Nat) : List Value := sj ((p[n]?.map (·.1)).getD []) :: c n
inductive Rv (w : World) (A : Nat → Prop) : JV → List Value → Prop
  | mk {k i : Int} {s : Bs} {l : List JV} {p : List (Bs × JV)} {vl vp : Value} (c e : Nat → List Value) (hl : RowAt w A 5 l.length c vl) (hp : RowAt w A 6 p.length (pcl p e) vp)
      (kl : ∀ n j, l[n]? = some j → Rv w A j (c n)) (kp : ∀ n q, p[n]? = some q → Rv w A q.2 (e n)) : Rv w A (.mk k i s l p) (vcl k i s vl vp)
theorem RowAt.to {w w' : World} {A A' : Nat → Prop} {z n : Nat} {c : Nat → List Value} {v : Value} (h : RowAt w A z n c v) (ha : ∀ k, A k → A' k) (hw : ∀ k, A k → w'.heap[k]? = w.heap[k]?) : RowAt w' A' z n c v := by
  obtain ⟨hn, a, cap, hv, h⟩ := h
  refine ⟨hn, a, cap, hv, fun h0 => ?_⟩
  obtain ⟨b, o, e, hA, hr⟩ := h h0
  refine ⟨b, o, e, ha b hA, fun i hi => ⟨(hr i hi).1, fun j u hu => ?_⟩⟩
  rw [← (hr i hi).2 j u hu]
  simp only [World.cell?, hw b hA]
theorem Rv.to {w w' : World} {A A' : Nat → Prop} {j : JV} {cs : List Value} (h : Rv w A j cs) (ha : ∀ k, A k → A' k) (hw : ∀ k, A k → w'.heap[k]? = w.heap[k]?) : Rv w' A' j cs := by
  induction h with
  | mk c e hl hp kl kp ihl ihp => exact .mk c e (hl.to ha hw) (hp.to ha hw) ihl ihp
theorem RowAt.one {w : World} {A : Nat → Prop} {z n : Nat} {c : Nat → List Value} {v : Value} (h : RowAt w A z n c v) : v.oneCell' = true := by
  obtain ⟨_, a, cap, rfl, _⟩ := h; rfl
theorem Rv.len {w : World} {A : Nat → Prop} {j : JV} {cs : List Value} (h : Rv w A j cs) : cs.length = 5 := by cases h; rfl
theorem Rv.one {w : World} {A : Nat → Prop} {j : JV} {cs : List Value} (h : Rv w A j cs) : cs.all (·.oneCell') = true := by
  cases h with
  | mk c e hl hp kl kp =>
    obtain ⟨_, a, cap, rfl, _⟩ := hl
    obtain ⟨_, a, cap, rfl, _⟩ := hp
    rfl
theorem RowAt.nil (w : World) (A : Nat → Prop) (z : Nat) (c : Nat → List Value) (a : Option Addr) (cap : Nat) : RowAt w A z 0 c (.slice a 0 cap) := ⟨by decide, a, cap, rfl, fun h => absurd rfl h⟩
/-- a value without parts -/
theorem Rv.leaf (w : World) (A : Nat → Prop) (k i : Int) (s : Bs) : Rv w A (.mk k i s [] []) (vcl k i s (.slice none 0 0) (.slice none 0 0)) :=
  .mk (fun _ => []) (fun _ => []) (.nil ..) (.nil ..) (fun n j h => by simp at h) (fun n j h => by simp at h)
def Held (w : World) (A : Nat → Prop) (ks : List (JV × List Value)) : Prop := (∀ k, A k → k < w.heap.size) ∧ ∀ x ∈ ks, Rv w A x.1 x.2
/-- values that lie in blocks of one's own -/
def heldR (A : Nat → Prop) (ks : List (JV × List Value)) : Res where
  w := A
  r := fun _ => False
  p := fun w => Held w A ks
  st := fun u v h hp => ⟨fun k hk => by
      have e := h k (.inl hk)
      rw [Array.getElem?_eq_getElem (hp.1 k hk)] at e
      exact (Array.getElem?_eq_some_iff.1 e).1, fun x hx => (hp.2 x hx).to (fun _ h => h) fun k hk => h k (.inl hk)⟩
  bd := fun u h k hk => by
    rcases hk with hk | hk
    · exact h.1 k hk
    · exact hk.elim
structure VO where
  j : JV
  cs : List Value
  t : Bs
  bad : Bool
def VF (o : Option (JV × Bs)) (s : Bs) (x : VO) : Prop := x.t.length ≤ s.length ∧ ((o = none ∧ x.bad = true) ∨ (o = some (x.j, x.t) ∧ x.bad = false))
/-- a function that reads a value -/
def ValC (g : FuncId) (vs : List Value) (o : Option (JV × Bs)) (s : Bs) (b : Nat) (d : Int) (w : World) : Prop :=
  Calls Tryd.prog g vs.toArray w fun e w' => ∃ x : VO, VF o s x ∧ e = .returned (.agg x.cs.toArray) ∧ Upd b (rdC x.t x.bad d) TRd w w' ∧ ∃ A : Nat → Prop, (∀ k, A k → w.heap.size ≤ k) ∧ Held w' A [(x.j, x.cs)]
section
variable {M : Bks} {B w w' : World} {L : List Ent}
theorem St.join (h : St M B w' L) {e : Ent} (ok : e.Ok w') {n : Nat} (hn : B.heap.size ≤ n) (hA : ∀ k, e.A k → n ≤ k) (hL : ∀ f ∈ L, ∀ k, f.A k → k < n) : St M B w' (L ++ [e]) := by
  refine ⟨h.os, h.tape, h.output, h.size, h.old, fun f hf => ?_, fun f hf k hk => ?_, ?_⟩
  · rcases List.mem_append.1 hf with hf | hf
    · exact h.ok f hf
    · obtain rfl : f = e := by simpa using hf
      exact ok
  · rcases List.mem_append.1 hf with hf | hf
    · exact h.ownW f hf k hk
    · obtain rfl : f = e := by simpa using hf
      exact .inl (Nat.le_trans hn (hA k hk.a))
  · refine List.pairwise_append.2 ⟨h.apart, by simp, ?_⟩
    intro x hx y hy
    obtain rfl : y = e := by simpa using hy
    exact fun k => ⟨fun h1 h2 => absurd (hL x hx k h1.a) (Nat.not_lt.2 (hA k h2)), fun h1 h2 => absurd (hL x hx k h2) (Nat.not_lt.2 (hA k h1.a))⟩
/-- a call that reads a value -/
theorem cUV {C : Cx} (k : Nat) {g : FuncId} {vs : List Value} {b : Nat} {c0 : Array Value} {d : Int} {o : Option (JV × Bs)} {s : Bs} {next : Value → List Ent → Prop} (hP : C.P = Tryd.prog) (hk : L[k]? = some (cl b c0 TRd))
    (h : ∀ w, St C.M C.B w L → ValC g vs o s b d w) (go : ∀ x A w, VF o s x → Held w A [(x.j, x.cs)] → next (.agg x.cs.toArray) (L.set k (cl b (rdC x.t x.bad d) TRd) ++ [rs (heldR A [(x.j, x.cs)])])) : CallP C g vs L next := by
  refine ⟨fun w hs => ?_⟩
  rw [hP]
  refine (h w hs).mono fun e w' ⟨x, hx, he, hu, A, hA, hH⟩ => ⟨_, _, he, ?_, go x A w' hx hH⟩
  refine St.join (hs.set hk hu.size hu.ok hu.old hu.os hu.tape hu.output) ((rsOk _ _).2 hH) hs.size (fun i hi => ?_) (fun f hf i hi => ?_)
  · rcases (rsA _ _).1 hi with hi | hi
    · exact hA i hi
    · exact hi.elim
  · rcases List.mem_or_eq_of_mem_set hf with hf | rfl
    · exact hs.ltA hf hi
    · have h2 := hs.ltA (List.mem_of_getElem? hk) (k := b) (.inl ⟨rfl, rfl⟩)
      obtain rfl : b = i := by simpa using hi
      exact h2
end
end Go.Proofs.YtpegkoklmhccjaaDoor
