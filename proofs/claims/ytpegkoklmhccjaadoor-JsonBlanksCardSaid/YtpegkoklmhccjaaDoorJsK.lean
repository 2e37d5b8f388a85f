/- Chapter 12: values: what a text says. -/
import Derived.Test.YtpegkoklmhccjaaDoorJsJ
namespace Go.Proofs.YtpegkoklmhccjaaDoor
open Go.RowKit Go.Sx
set_option linter.unusedVariables false
section
variable {M : Bks} {B w w' : World} {L : List Ent}
theorem St.merge2 (h : St M B w L) {k j : Nat} {x y e' : Ent} (hk : L[k]? = some x) (hj : L[j]? = some y) (hkj : k ≠ j) (ok : e'.Ok w) (W : ∀ i, e'.W i → x.W i ∨ y.W i) (A : ∀ i, e'.A i → x.A i ∨ y.A i) : St M B w ((L.set j dead).set k e') := by
  have hjd := h.kill j
  refine ⟨h.os, h.tape, h.output, h.size, h.old, fun f hf => ?_, fun f hf i hi => ?_, ?_⟩
  · rcases mem_set_cases hf with rfl | ⟨i, _, hi⟩
    · exact ok
    · exact hjd.ok f (List.mem_of_getElem? hi)
  · rcases mem_set_cases hf with rfl | ⟨q, _, hq⟩
    · rcases W i hi with h1 | h1
      · exact h.ownW x (List.mem_of_getElem? hk) i h1
      · exact h.ownW y (List.mem_of_getElem? hj) i h1
    · exact hjd.ownW f (List.mem_of_getElem? hq) i hi
  · refine pw_set hjd.apart fun i f hik hi => ?_
    by_cases hij : i = j
    · subst hij
      rw [List.getElem?_set_self (List.getElem?_eq_some_iff.1 hj).1] at hi
      obtain rfl := Option.some.inj hi
      exact (dead_apart _).symm
    · rw [List.getElem?_set_ne (fun e => hij e.symm)] at hi
      have a1 := pw_ne h.apart hk hi (fun e => hik e.symm)
      have a2 := pw_ne h.apart hj hi (fun e => hij e.symm)
      exact fun q => ⟨fun h1 h2 => (W q h1).elim (fun h3 => (a1 q).1 h3 h2) (fun h3 => (a2 q).1 h3 h2), fun h1 h2 => (A q h2).elim (fun h3 => (a1 q).2 h1 h3) (fun h3 => (a2 q).2 h1 h3)⟩
/-- what two hold, one holds -/
theorem St.kids (h : St M B w L) {k j : Nat} {A A' : Nat → Prop} {ks ks' : List (JV × List Value)} (hk : L[k]? = some (rs (heldR A ks))) (hj : L[j]? = some (rs (heldR A' ks'))) (hkj : k ≠ j) :
    St M B w ((L.set j dead).set k (rs (heldR (fun i => A i ∨ A' i) (ks ++ ks')))) := by
  have h1 : Held w A ks := h.res hk
  have h2 : Held w A' ks' := h.res hj
  have e : ∀ i, (A i ∨ A' i) → (rs (heldR A ks)).W i ∨ (rs (heldR A' ks')).W i := fun i hi => hi.imp (fun h => (rsW _ _).2 h) (fun h => (rsW _ _).2 h)
  refine St.merge2 h hk hj hkj ((rsOk _ _).2 ⟨fun i hi => hi.elim (h1.1 i) (h2.1 i), fun x hx => ?_⟩) (fun i hi => e i ((rsW _ _).1 hi)) (fun i hi => ?_)
  · rcases List.mem_append.1 hx with hx | hx
    · exact (h1.2 x hx).to (fun _ h => .inl h) fun _ _ => rfl
    · exact (h2.2 x hx).to (fun _ h => .inr h) fun _ _ => rfl
  · rcases (rsA _ _).1 hi with hi | hi
    · exact (e i hi).imp Ent.W.a Ent.W.a
    · exact hi.elim
/-- what is one's own, besides the block that turns, is new -/
theorem St.fresh {b : Nat} {c : Array Value} {t : TypeId} (h : St [bl b] B w (cl b c t :: L)) {k : Nat} {e : Ent} (hk : L[k]? = some e) : ∀ i, e.W i → B.heap.size ≤ i := fun i hi => by
  rcases h.ownW e (List.mem_cons_of_mem _ (List.mem_of_getElem? hk)) i hi with h1 | h1
  · exact h1
  · obtain rfl : i = b := by simpa using h1
    have ha := pw_ne h.apart (i := 0) (j := k + 1) rfl (by simpa using hk) (by omega) i
    exact absurd hi.a (ha.1 (by simp))
end
theorem flat_at (z : Nat) (ks : List (List Value)) (hz : ∀ x ∈ ks, x.length = z) : ∀ (i : Nat) (x : List Value), ks[i]? = some x → ∀ (j : Nat) (v : Value), x[j]? = some v → ks.flatten[i * z + j]? = some v := by
  induction ks with
  | nil => intro i x h; simp at h
  | cons y ks ih =>
    intro i x h j v hv
    have hy := hz y List.mem_cons_self
    rw [List.flatten_cons]
    cases i with
    | zero =>
      obtain rfl : y = x := by simpa using h
      have := (List.getElem?_eq_some_iff.1 hv).1
      rw [Nat.zero_mul, Nat.zero_add, List.getElem?_append_left this]; exact hv
    | succ i =>
      rw [List.getElem?_append_right (by rw [hy, Nat.succ_mul]; omega), show (i + 1) * z + j - y.length = i * z + j by rw [hy, Nat.succ_mul]; omega]
      exact ih (fun x hx => hz x (List.mem_cons_of_mem _ hx)) i x (by simpa using h) j v hv
def rowB (r : Sx.Own) (i : Nat) : Prop := match r with
  | none => False
  | some (b, _, _) => i = b
/-- a row of one's own, as a slice -/
theorem row_at {M : Bks} {B w : World} {L : List Ent} (h : St M B w L) {k z n : Nat} {r : Sx.Own} {ks : List (List Value)} {e : TypeId} {A : Nat → Prop} {c : Nat → List Value} (hk : L[k]? = some (se r ks.flatten e)) (hR : Rw z n r ks.flatten) (hn : ks.length = n) (hz : ∀ x ∈ ks, x.length = z) (hA : ∀ i, rowB r i → A i) (hc : ∀ i x, ks[i]? = some x → c i = x) (hm : n ≤ maxLen) :
    RowAt w A z n c (sv r n) := by
  cases r with
  | none =>
    obtain rfl : n = 0 := hR.2
    exact .nil ..
  | some q =>
    obtain ⟨g, cap, jn⟩ := q
    refine ⟨hm, some ⟨g, 0, none⟩, cap, rfl, fun h0 => ⟨g, 0, rfl, hA g rfl, fun i hi => ?_⟩⟩
    have hi' : i < ks.length := by omega
    have e := hc i _ (List.getElem?_eq_getElem hi')
    rw [e]
    refine ⟨hz _ (List.getElem_mem hi'), fun j v hv => ?_⟩
    rw [h.cell hk, Nat.zero_add]
    have := flat_at z ks hz i _ (List.getElem?_eq_getElem hi') j v hv
    have hlt := (List.getElem?_eq_some_iff.1 this).1
    rw [List.getElem?_toArray, List.getElem?_append_left hlt]; exact this
/-- what stands in a list -/
def itmG (V : Bs → Option (JV × Bs)) : Nat → Bs → Option (List JV × Bs)
  | 0, _ => none
  | n + 1, s => match V s with
    | none => none
    | some (j, t) => if (eatP 93 t).1 then some ([j], (eatP 93 t).2) else if (eatP 44 (eatP 93 t).2).1 then (itmG V n (eatP 44 (eatP 93 t).2).2).map fun p => (j :: p.1, p.2) else none
/-- what stands behind a list's first sign -/
def lstG (V : Bs → Option (JV × Bs)) (t : Bs) : Option (JV × Bs) := (if (eatP 93 t).1 then some ([], (eatP 93 t).2) else itmG V ((eatP 93 t).2.length + 1) (eatP 93 t).2).map fun p => (.mk 4 0 [] p.1 [], p.2)
/-- one pair: its name, its value -/
def onePr (V : Bs → Option (JV × Bs)) (seen : List Bs) (s : Bs) : Option (Bs × JV × Bs) := match textP (ws s) with
  | none => none
  | some (name, t) => if name ∈ seen then none else if (eatP 58 t).1 then (V (eatP 58 t).2).map fun p => (name, p.1, p.2) else none
def prsG (V : Bs → Option (JV × Bs)) : List Bs → Nat → Bs → Option (List (Bs × JV) × Bs)
  | _, 0, _ => none
  | seen, n + 1, s => match onePr V seen s with
    | none => none
    | some (name, j, u) => if (eatP 125 u).1 then some ([(name, j)], (eatP 125 u).2) else if (eatP 44 (eatP 125 u).2).1 then (prsG V (name :: seen) n (eatP 44 (eatP 125 u).2).2).map fun p => ((name, j) :: p.1, p.2) else none
def objG (V : Bs → Option (JV × Bs)) (t : Bs) : Option (JV × Bs) := (if (eatP 125 t).1 then some ([], (eatP 125 t).2) else prsG V [] ((eatP 125 t).2.length + 1) (eatP 125 t).2).map fun p => (.mk 5 0 [] [] p.1, p.2)
def valT (ls os : Bs → Option (JV × Bs)) (c : UInt8) (t : Bs) : Option (JV × Bs) :=
  if c = 110 then (pre [110, 117, 108, 108] (c :: t)).map fun u => (.mk 0 0 [] [] [], u)
  else if c = 116 then (pre [116, 114, 117, 101] (c :: t)).map fun u => (.mk 1 1 [] [] [], u)
  else if c = 102 then (pre [102, 97, 108, 115, 101] (c :: t)).map fun u => (.mk 1 0 [] [] [], u)
  else if c = 34 then (textP (c :: t)).map fun p => (.mk 3 0 p.1 [] [], p.2)
  else if c = 91 then ls t
  else if c = 123 then os t
  else (numP (c :: t)).map fun p => (.mk 2 p.1 [] [] [], p.2)
def valS (ls os : Bs → Option (JV × Bs)) (s : Bs) : Option (JV × Bs) := match ws s with
  | [] => none
  | c :: t => valT ls os c t
/-- the value at a text's beginning; r: how much deeper lists and objects may go -/
def jvD : Nat → Bs → Option (JV × Bs)
  | 0 => valS (fun _ => none) (fun _ => none)
  | r + 1 => valS (lstG (jvD r)) (objG (jvD r))
end Go.Proofs.YtpegkoklmhccjaaDoor
