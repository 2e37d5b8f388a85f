/- The law's disks: what is held, and the rules for it. -/
import Derived.Test.YtdgkaboaapfnmaaDpA
namespace Go.Proofs.Ytdgkaboaapfnmaa
open Go.RowKit Go.Sx
set_option linter.unusedVariables false

theorem lt_same {u v : World} {k : Nat} (h1 : k < u.heap.size) (h2 : v.heap[k]? = u.heap[k]?) : k < v.heap.size := by
  rw [Array.getElem?_eq_getElem h1] at h2
  exact (Array.getElem?_eq_some_iff.1 h2).1
theorem RdR.has {rr : Nat → Prop} {w : World} {v : Value} {xs : List Value} (h : RdR rr w v xs) : RdR (fun k => rr k ∧ k < w.heap.size) w v xs := by
  obtain ⟨a, c, h0, h1, h2, h3, h3', h⟩ := h
  refine ⟨a, c, h0, h1, h2, h3, h3', fun hx => ?_⟩
  obtain ⟨b, o, e, hb, hl, hc⟩ := h hx
  exact ⟨b, o, e, ⟨hb, hl⟩, hl, hc⟩
theorem RFs.has {rr : Nat → Prop} {u : World} {fv : Value} {fs : List Fe} (h : RFs rr u fv fs) : RFs (fun k => rr k ∧ k < u.heap.size) u fv fs := by
  obtain ⟨ps, h1, h2, a, c, h3, h4⟩ := h
  refine ⟨ps, h1, fun p hp => RdR.has (h2 p hp), a, c, h3, fun hne => ?_⟩
  obtain ⟨b, o, e, hb, hl, hc⟩ := h4 hne
  exact ⟨b, o, e, ⟨hb, hl⟩, hl, hc⟩
/-- the reference's files, that are read -/
def mR (rr : Nat → Prop) (fv : Value) (fs : List Fe) : Res where
  w _ := False
  r := rr
  p u := RFs rr u fv fs ∧ ∀ k, rr k → k < u.heap.size
  st u v h := fun ⟨h1, h2⟩ => ⟨h1.same fun k hk => h k (.inr hk), fun k hk => lt_same (h2 k hk) (h k (.inr hk))⟩
  bd u := fun h k hk => hk.elim False.elim (h.2 k)
/-- cells that a slice reads, whatever lies behind them -/
def RdB (rr : Nat → Prop) (w : World) (v : Value) (xs : List Value) : Prop := ∃ a c, v = .slice a xs.length c ∧ (xs ≠ [] → ∃ b o, a = some ⟨b, o, none⟩ ∧ rr b ∧ b < w.heap.size ∧ ∀ j u, xs[j]? = some u → w.cell? ⟨b, o + j, none⟩ = some u)
theorem RdB.rd {rr : Nat → Prop} {w : World} {v : Value} {xs : List Value} (h : RdB rr w v xs) : Rd w v xs := by
  obtain ⟨a, c, h0, h⟩ := h
  refine ⟨a, c, h0, fun hx => ?_⟩
  obtain ⟨b, o, h1, h2, h3, h4⟩ := h hx
  exact ⟨b, o, h1, h3, h4⟩
theorem RdB.same {rr : Nat → Prop} {u v : World} {x : Value} {xs : List Value} (hs : ∀ k, rr k → v.heap[k]? = u.heap[k]?) (h : RdB rr u x xs) : RdB rr v x xs := by
  obtain ⟨a, c, h0, h⟩ := h
  refine ⟨a, c, h0, fun hx => ?_⟩
  obtain ⟨b, o, e, hb, hl, hc⟩ := h hx
  have hbb := hs b hb
  exact ⟨b, o, e, hb, lt_same hl hbb, fun j u' hu => by rw [← hc j u' hu]; simp only [World.cell?, hbb]⟩
theorem RdB.of {w : World} {v : Value} {xs : List Value} (h : Rd w v xs) : RdB (fun k => k < w.heap.size) w v xs := by
  obtain ⟨a, c, h0, h⟩ := h
  refine ⟨a, c, h0, fun hx => ?_⟩
  obtain ⟨b, o, h1, h3, h4⟩ := h hx
  exact ⟨b, o, h1, h3, h3, h4⟩
theorem rdb_slice {rr : Nat → Prop} {w : World} {v : Value} {l : List UInt8} (h : RdB rr w v (Lib.byteCells l)) : ∃ a c, v = .slice a l.length c := by
  obtain ⟨a, c, h1, _⟩ := h
  exact ⟨a, c, by rw [h1, Lib.byteCells_length]⟩
/-- bytes that are read -/
def oR (rr : Nat → Prop) (v : Value) (l : List UInt8) : Res where
  w _ := False
  r := rr
  p u := RdB rr u v (Lib.byteCells l) ∧ ∀ k, rr k → k < u.heap.size
  st u v h := fun ⟨h1, h2⟩ => ⟨h1.same fun k hk => h k (.inr hk), fun k hk => lt_same (h2 k hk) (h k (.inr hk))⟩
  bd u := fun h k hk => hk.elim False.elim (h.2 k)
/-- both disks -/
structure Two where
  S : DkS
  M : Dk
  fv : Value
  rr : Nat → Prop
structure TwoP (T : Two) (u : World) : Prop where
  d : DkP T.S u
  m : RFs T.rr u T.fv T.M.files
  r : ∀ k, T.rr k → k < u.heap.size ∧ k ≠ T.S.bd ∧ k ≠ T.S.bm
def twoR (T : Two) : Res where
  w k := k = T.S.bd ∨ k = T.S.bm
  r k := T.S.rr k ∨ T.rr k
  p u := TwoP T u
  st u v h := fun hp => ⟨(dkR T.S).st u v (fun k hk => h k (hk.imp id .inl)) hp.d, hp.m.same fun k hk => h k (.inr (.inr hk)), fun k hk => ⟨lt_same (hp.r k hk).1 (h k (.inr (.inr hk))), (hp.r k hk).2⟩⟩
  bd u := fun hp k hk => by
    rcases hk with hk | hk | hk
    · exact (dkR T.S).bd u hp.d k (.inl hk)
    · exact (dkR T.S).bd u hp.d k (.inr hk)
    · exact (hp.r k hk).1
/-- where an act begins -/
theorem two_start {T : Two} {w : World} (h : TwoP T w) {rb : Nat → Prop} {bv : Value} {l : List UInt8} (hb : RdB rb w bv (Lib.byteCells l)) (hr : ∀ k, rb k → k < w.heap.size ∧ k ≠ T.S.bd ∧ k ≠ T.S.bm) :
    St [bl T.S.bd, bl T.S.bm] w w [rs (dkR T.S), rs (mR T.rr T.fv T.M.files), rs (oR rb bv l)] :=
  St.from w _ _ (fun e he => by
    simp only [List.mem_cons, List.not_mem_nil, or_false] at he
    rcases he with rfl | rfl | rfl
    · exact ⟨by rw [rsOk]; exact h.d, fun k hk => by
        rcases (rsW _ _).1 hk with hk | hk
        · simp [bl, hk]
        · simp [bl, hk]⟩
    · exact ⟨by rw [rsOk]; exact ⟨h.m, fun k hk => (h.r k hk).1⟩, fun k hk => by simp [mR] at hk⟩
    · exact ⟨by rw [rsOk]; exact ⟨hb, fun k hk => (hr k hk).1⟩, fun k hk => by simp [oR] at hk⟩) (by
    refine .cons (fun y hy => ?_) (.cons (fun y hy => ?_) (by simp))
    · simp only [List.mem_cons, List.not_mem_nil, or_false] at hy
      rcases hy with rfl | rfl
      · refine fun k => ⟨fun h1 h2 => ?_, fun h1 _ => by simp [mR] at h1⟩
        have h3 : T.rr k := by simpa [mR] using h2
        rcases (rsW _ _).1 h1 with h4 | h4
        · exact (h.r k h3).2.1 h4
        · exact (h.r k h3).2.2 h4
      · refine fun k => ⟨fun h1 h2 => ?_, fun h1 _ => by simp [oR] at h1⟩
        have h3 : rb k := by simpa [oR] using h2
        rcases (rsW _ _).1 h1 with h4 | h4
        · exact (hr k h3).2.1 h4
        · exact (hr k h3).2.2 h4
    · obtain rfl : y = rs (oR rb bv l) := by simpa using hy
      exact fun k => ⟨fun h1 _ => by simp [mR] at h1, fun h1 _ => by simp [oR] at h1⟩)
section
variable {C : Cx} {L : List Ent}
/-- a copy of bytes, with the marks -/
theorem cvC {g : FuncId} {vs : List Value} {x : List UInt8} {next : Value → List Ent → Prop}
    (h : ∀ w, St C.M C.B w L → Calls C.P g vs.toArray w fun e w' => ∃ b c j, e = .returned (sv (some (b, c, marks ++ j)) x.length) ∧ Rw 1 x.length (some (b, c, marks ++ j)) (Lib.byteCells x) ∧ w.heap.size ≤ b ∧ w'.heap[b]? = some (.cells (Lib.byteCells x ++ (marks ++ j)).toArray 5 (0, 0)) ∧ Below w.heap.size w w')
    (go : ∀ b c j, Rw 1 x.length (some (b, c, marks ++ j)) (Lib.byteCells x) → next (sv (some (b, c, marks ++ j)) x.length) (L ++ [se (some (b, c, marks ++ j)) (Lib.byteCells x) 5])) : CallP C g vs L next :=
  ⟨fun w hs => (h w hs).mono fun e w' ⟨b, c, j, he, hR, hb, ho, hB⟩ => ⟨_, _, he, hs.add hB hb ho, go b c j hR⟩⟩
/-- a reference's function is called -/
theorem cRf (k : Nat) {g : FuncId} {vs : List Value} {M' : Dk} {code : Nat} {rr : Nat → Prop} {fv : Value} {fs : List Fe} {next : Value → List Ent → Prop} (hk : L[k]? = some (rs (mR rr fv fs)))
    (h : ∀ w, St C.M C.B w L → Calls C.P g vs.toArray w (RefR rr w M' code))
    (go : ∀ fv' rr', (∃ a n c, fv' = .slice a n c) → (∀ j, rr' j → rr j ∨ C.B.heap.size ≤ j) → next (.tuple #[.agg (rdC M' fv'), .int .i64 code]) (L ++ [rs (mR rr' fv' M'.files)])) : CallP C g vs L next := by
  refine ⟨fun w hs => (h w hs).mono fun e w' ⟨fv', rr', he, hb, hf, hr⟩ => ⟨_, _, he, hs.push hb ?_ (fun k hk => by simp [mR] at hk) (fun j hj => ?_), go fv' (fun k => rr' k ∧ k < w'.heap.size) ?_ (fun j hj => (hr j hj.1).imp id (Nat.le_trans hs.size))⟩⟩
  · rw [rsOk]
    exact ⟨hf.has, fun j hj => hj.2⟩
  · have h2 : rr' j ∧ j < w'.heap.size := by simpa [mR] using hj
    rcases hr j h2.1 with h1 | h1
    · exact .inr ⟨_, List.mem_of_getElem? hk, (rsA _ _).2 (.inr h1), by simp [mR]⟩
    · exact .inl h1
  · obtain ⟨_, _, _, a, c, e, _⟩ := hf
    exact ⟨a, _, c, e⟩
/-- where a turned disk lies -/
structure DkGo (B : World) (S S' : DkS) : Prop where
  bd : S'.bd = S.bd
  bm : S'.bm = S.bm
  rr : ∀ k, S'.rr k → (k = S.bd ∨ k = S.bm ∨ S.rr k) ∨ B.heap.size ≤ k
theorem DkGo.refl (B : World) (S : DkS) : DkGo B S S := ⟨rfl, rfl, fun k h => .inl (.inr (.inr h))⟩
theorem DkGo.of {B w w' : World} {S S' : DkS} (hB : B.heap.size ≤ w.heap.size) (h1 : S'.bd = S.bd) (h2 : S'.bm = S.bm) (h : Turns w w' (dkR S) (dkR S')) : DkGo B S S' :=
  ⟨h1, h2, fun k hk => by
    rcases h.A k (.inr hk) with (⟨h3 | h3⟩ | h3) | h3
    · exact .inl (.inl h3)
    · exact .inl (.inr (.inl h3))
    · exact .inl (.inr (.inr h3))
    · exact .inr (Nat.le_trans hB h3)⟩
/-- a disk's function is called -/
theorem cTd (k : Nat) {g : FuncId} {vs : List Value} {S : DkS} {D' : Dk} {code : Nat} {next : Value → List Ent → Prop} (hk : L[k]? = some (rs (dkR S)))
    (h : ∀ w, St C.M C.B w L → Calls C.P g vs.toArray w (TurnR S w D' code)) (go : ∀ S', S'.D = D' → DkGo C.B S S' → next (errV code) (L.set k (rs (dkR S')))) : CallP C g vs L next :=
  cT (α := DkS) (Φ := fun S' => S'.D = D' ∧ DkGo C.B S S') (v := fun _ => errV code) (r' := dkR) k hk (fun w hs => (h w hs).mono fun e w' ⟨S', h1, h2, h3, h4, h5⟩ => ⟨S', ⟨h1, .of hs.size h2 h3 h5⟩, h4, h5⟩) (fun S' hS => go S' hS.1 hS.2)
theorem two_end {T : Two} {w w1 : World} (h : TwoP T w) (hs : St [bl T.S.bd, bl T.S.bm] w w1 L) {S' : DkS} {M' : Dk} {fv' : Value} {rr' : Nat → Prop} {k : Nat} (h0 : L[0]? = some (rs (dkR S'))) (hk : L[k]? = some (rs (mR rr' fv' M'.files))) (hk0 : k ≠ 0) (hg : DkGo w T.S S') (hr : ∀ j, rr' j → T.rr j ∨ w.heap.size ≤ j) :
    Turns w w1 (twoR T) (twoR ⟨S', M', fv', rr'⟩) := by
  refine Turns.of_st hs (fun j hj => ?_) ⟨hs.res h0, (hs.res hk).1, fun j hj => ?_⟩ (fun j hj => ?_) (fun j hj => ?_)
  · simpa [bl, twoR] using hj
  · have ha := pw_ne hs.apart h0 hk (fun e => hk0 e.symm) j
    have h1 : (rs (mR rr' fv' M'.files)).A j := (rsA _ _).2 (.inr hj)
    exact ⟨(hs.res hk).2 j hj, fun e => ha.1 ((rsW _ _).2 (.inl e)) h1, fun e => ha.1 ((rsW _ _).2 (.inr e)) h1⟩
  · rcases hj with hj | hj
    · exact .inl (.inl (hj.trans hg.bd))
    · exact .inl (.inr (hj.trans hg.bm))
  · rcases hj with (hj | hj) | hj | hj
    · exact .inl (.inl (.inl (hj.trans hg.bd)))
    · exact .inl (.inl (.inr (hj.trans hg.bm)))
    · rcases hg.rr j hj with (h1 | h1 | h1) | h1
      · exact .inl (.inl (.inl h1))
      · exact .inl (.inl (.inr h1))
      · exact .inl (.inr (.inl h1))
      · exact .inr h1
    · rcases hr j hj with h1 | h1
      · exact .inl (.inr (.inr h1))
      · exact .inr h1
end
end Go.Proofs.Ytdgkaboaapfnmaa
