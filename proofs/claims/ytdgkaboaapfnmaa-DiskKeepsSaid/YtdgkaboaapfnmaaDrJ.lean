/- The reference's disk: Crash: the walk. -/
import Derived.Test.YtdgkaboaapfnmaaDrI
namespace Go.Proofs.Ytdgkaboaapfnmaa
open Go.RowKit Go.Sx
set_option linter.unusedVariables false


/-- two entries become one -/
theorem St.merge {M : Bks} {B w : World} {L : List Ent} (h : St M B w L) {k j : Nat} {x y e' : Ent} (hk : L[k]? = some x) (hj : L[j]? = some y) (hkj : k ≠ j) (ok : e'.Ok w) (W : ∀ i, e'.W i → x.W i ∨ y.W i) (A : ∀ i, e'.A i → x.A i ∨ y.A i) : St M B w ((L.set j dead).set k e') := by
  have hjd := h.kill j
  refine ⟨h.os, h.tape, h.output, h.size, h.old, fun f hf => ?_, fun f hf i hi => ?_, ?_⟩
  · rcases mem_set_cases hf with rfl | ⟨i, _, hi⟩
    · exact ok
    · exact hjd.ok f (List.mem_of_getElem? hi)
  · rcases mem_set_cases hf with rfl | ⟨q, _, hq⟩
    · rcases W i hi with h1 | h1
      · exact h.ownW x (List.mem_of_getElem? hk) i h1
      · exact h.ownW y (List.mem_of_getElem? hj) i h1
    · exact hjd.ownW f (List.mem_of_getElem? hq) i hi
  · refine pw_set hjd.apart fun i f hik hi => ?_
    by_cases hij : i = j
    · subst hij
      rw [List.getElem?_set_self (List.getElem?_eq_some_iff.1 hj).1] at hi
      obtain rfl := Option.some.inj hi
      exact (dead_apart _).symm
    · rw [List.getElem?_set_ne (fun e => hij e.symm)] at hi
      have a1 := pw_ne h.apart hk hi (fun e => hik e.symm)
      have a2 := pw_ne h.apart hj hi (fun e => hij e.symm)
      exact fun q => ⟨fun h1 h2 => (W q h1).elim (fun h3 => (a1 q).1 h3 h2) (fun h3 => (a2 q).1 h3 h2), fun h1 h2 => (A q h2).elim (fun h3 => (a1 q).2 h1 h3) (fun h3 => (a2 q).2 h1 h3)⟩
theorem biImp {C : Cx} {ts : Array TypeId} {t : TypeId} {cs : Array Bool} {vs : List Value} {L : List Ent} {next next' : Value → List Ent → Prop} (h : BiP C .append ts t cs vs L next') (hn : ∀ v L', next' v L' → ∃ L'', (∀ w, St C.M C.B w L' → St C.M C.B w L'') ∧ next v L'') : BiP C .append ts t cs vs L next := by
  refine apRun fun w hs => ?_
  have h1 := h.go w hs
  cases hr : (Builtin.append_ ts t vs.toArray).run C.P w with
  | ok r w' =>
    have : (builtin .append ts t cs vs.toArray).run C.P w = .ok (.value r) w' := by simp [builtin, hr]
    rw [this] at h1
    obtain ⟨L', h2, h3⟩ := h1
    obtain ⟨L'', h4, h5⟩ := hn r L' h3
    exact ⟨r, w', L'', rfl, h4 w' h2, h5⟩
  | _ =>
    exfalso
    simp [builtin, hr, Sx.Fin] at h1
/-- bytes that were made, together -/
def bagR (own : Nat → Prop) (qs : List PF) : Res where
  w := own
  r := fun _ => False
  p := fun u => (∀ k, own k → k < u.heap.size) ∧ ∀ q ∈ qs, RdR own u q.1 (Lib.byteCells q.2.bs)
  st := fun u v hs ⟨h1, h2⟩ => ⟨fun k hk => by
    have h3 := hs k (.inl hk)
    rw [Array.getElem?_eq_getElem (h1 k hk)] at h3
    exact (Array.getElem?_eq_some_iff.1 h3).1, fun q hq => (h2 q hq).same fun k hk => hs k (.inl hk)⟩
  bd := fun u h k hk => h.1 k (hk.elim id False.elim)
def bagE (own : Nat → Prop) (qs : List PF) : Ent := if qs = [] then dead else rs (bagR own qs)
theorem bagE_W {own : Nat → Prop} {qs : List PF} {i : Nat} (h : (bagE own qs).W i) : own i := by
  unfold bagE at h; split at h
  · simp at h
  · simpa [bagR] using h
theorem bagE_ok {own : Nat → Prop} {qs : List PF} {w : World} (h : (bagE own qs).Ok w) : ∀ q ∈ qs, RdR own w q.1 (Lib.byteCells q.2.bs) := by
  unfold bagE at h; split at h
  · rename_i h1; rw [h1]; simp
  · exact ((rsOk _ _).1 h).2
theorem bag_add {M : Bks} {B w : World} {L : List Ent} (h : St M B w L) {k j : Nat} {own : Nat → Prop} {qs : List PF} (hk : L[k]? = some (bagE own qs)) {n : Nat} {r : Sx.Own} {l : List UInt8} (hj : L[j]? = some (se r (Lib.byteCells l) 5)) (hR : Rw 1 n r (Lib.byteCells l)) (hkj : k ≠ j) (f : Fe) (hf : f.bs = l) :
    St M B w ((L.set j dead).set k (bagE (fun i => (own i ∧ qs ≠ []) ∨ rowB r i) (qs ++ [(sv r n, f)]))) := by
  have hW : ∀ i, rowB r i → (se r (Lib.byteCells l) 5).W i := by
    rintro i ⟨b, c, j, rfl, rfl⟩; simp [se]
  have e1 : bagE (fun i => (own i ∧ qs ≠ []) ∨ rowB r i) (qs ++ [(sv r n, f)]) = rs (bagR (fun i => (own i ∧ qs ≠ []) ∨ rowB r i) (qs ++ [(sv r n, f)])) := by unfold bagE; rw [if_neg (by simp)]
  rw [e1]
  have hkm := List.mem_of_getElem? hk
  have hjm := List.mem_of_getElem? hj
  have hx : ∀ i, (own i ∧ qs ≠ []) → (bagE own qs).W i := fun i hi => by unfold bagE; rw [if_neg hi.2]; simpa [bagR] using hi.1
  have hw2 : ∀ i, ((own i ∧ qs ≠ []) ∨ rowB r i) → (bagE own qs).W i ∨ (se r (Lib.byteCells l) 5).W i := fun i hi => hi.imp (hx i) (hW i)
  refine St.merge h hk hj hkj ?_ (fun i hi => hw2 i (by simpa [bagR] using hi)) (fun i hi => (hw2 i (by simpa [bagR] using hi)).imp Ent.W.a Ent.W.a)
  rw [rsOk]
  refine ⟨fun i hi => ?_, fun q hq => ?_⟩
  · rcases hw2 i hi with h1 | h1
    · exact h.ltA hkm h1.a
    · exact h.ltA hjm h1.a
  · rcases List.mem_append.1 hq with hq | hq
    · exact (bagE_ok (h.ok _ hkm) q hq).mono fun i hi => .inl ⟨hi, by intro e; rw [e] at hq; cases hq⟩
    · obtain rfl : q = (sv r n, f) := by simpa using hq
      show RdR _ w (sv r n) (Lib.byteCells f.bs)
      rw [hf]
      exact (RdR.own h j hj hR).mono fun i hi => .inr hi
end Go.Proofs.Ytdgkaboaapfnmaa
