/- For every quota, size and script the law SegsPlays returns true; no condition. -/
import Derived.Test.YteamnhpplclmfaaGreatDoorSpl1
section
namespace Go.Proofs.YteamnhpplclmfaaGreatDoor
open Go.RowKit Go.Sx
set_option linter.unusedVariables false
/-- the length that the reference reads from the disk -/
theorem rlen_al {x : Pt} {Ss : List (List Bs)} {P : List Bs} {q : Nat} (h : Al x Ss P q) {M : Dk} (he : Eqv x.D M) : rlenP M x.last = x.length := by
  unfold rlenP
  rw [he.f.find, h.la, h.le]
  rcases h.g.las with ⟨e1, e2⟩ | ⟨f, e1, e2, _⟩
  · rw [e2, e1]; rfl
  · rw [e1]
    show f.bs.length = _
    rw [e2, enc_len]
def rnextD (M : Dk) (last : Nat) : Dk × Nat := thenD (thenD (thenD (rsyncD M (nameS last)) fun M => rappendD M newB (recP (le4 (last + 1)))) fun M => rsyncD M newB) fun M => rrenameD M newB manB
theorem Eqv.next {D M : Dk} (h : Eqv D M) (last : Nat) : (nextD D last).2 = (rnextD M last).2 ∧ Eqv (nextD D last).1 (rnextD M last).1 :=
  Eqv.then (Eqv.then (Eqv.then (h.sync (nameS last)) fun h => h.append newB _) fun h => h.sync newB) fun h => h.rename newB manB
/-- a store of the reference while payloads go: the disk, the last segment -/
structure Rt where
  M : Dk
  last : Nat
def rgoD (size : Nat) (x : Rt) (p : Bs) : Rt × Nat :=
  if begP size (rlenP x.M x.last) (8 + p.length) = true then (if (rnextD x.M x.last).2 = 0 then (⟨(rnextD x.M x.last).1, x.last + 1⟩, 0) else (⟨(rnextD x.M x.last).1, x.last⟩, (rnextD x.M x.last).2)) else (x, 0)
def rputD (size : Nat) (x : Rt) (p : Bs) : Rt × Nat :=
  if (rgoD size x p).2 = 0 then
    (⟨(rappendD (rgoD size x p).1.M (nameS (rgoD size x p).1.last) (recP p)).1, (rgoD size x p).1.last⟩, (rappendD (rgoD size x p).1.M (nameS (rgoD size x p).1.last) (recP p)).2)
  else rgoD size x p
def rputsD (size : Nat) : Rt → List Bs → Rt × Nat
  | x, [] => (x, 0)
  | x, p :: ps => if (rputD size x p).2 = 0 then rputsD size (rputD size x p).1 ps else rputD size x p
theorem Eqv.go {x : Pt} {Ss : List (List Bs)} {P : List Bs} {q : Nat} (h : Al x Ss P q) {y : Rt} (he : Eqv x.D y.M) (hl : x.last = y.last) (size : Nat) (p : Bs) : (goD size x p).2 = (rgoD size y p).2 ∧ (goD size x p).1.last = (rgoD size y p).1.last ∧ Eqv (goD size x p).1.D (rgoD size y p).1.M := by
  have hlen := rlen_al h he
  obtain ⟨n1, n2⟩ := he.next y.last
  unfold goD rgoD
  rw [hl] at hlen
  rw [hlen, hl, n1]
  split
  · split
    · exact ⟨rfl, rfl, n2⟩
    · exact ⟨rfl, rfl, n2⟩
  · exact ⟨rfl, hl, he⟩
theorem Eqv.put {x : Pt} {Ss : List (List Bs)} {P : List Bs} {q : Nat} (h : Al x Ss P q) {y : Rt} (he : Eqv x.D y.M) (hl : x.last = y.last) (size : Nat) (p : Bs) : (putD size x p).2 = (rputD size y p).2 ∧ (putD size x p).1.last = (rputD size y p).1.last ∧ Eqv (putD size x p).1.D (rputD size y p).1.M := by
  obtain ⟨g1, g2, g3⟩ := Eqv.go h he hl size p
  obtain ⟨a1, a2⟩ := g3.append (nameS (rgoD size y p).1.last) (recP p)
  unfold putD rputD
  rw [g1, g2]
  split
  · exact ⟨a1, rfl, a2⟩
  · exact ⟨g1, g2, g3⟩
theorem Eqv.puts (size : Nat) (ps : List Bs) (hps : ∀ p ∈ ps, p.length ≤ 65536) : ∀ {x : Pt} {Ss : List (List Bs)} {P : List Bs} {q : Nat} {y : Rt}, Al x Ss P q → Ss.length + ps.length < 100000 → Eqv x.D y.M → x.last = y.last →
    (putsD size x ps).2 = (rputsD size y ps).2 ∧ (putsD size x ps).1.last = (rputsD size y ps).1.last ∧ Eqv (putsD size x ps).1.D (rputsD size y ps).1.M := by
  induction ps with
  | nil => exact fun h _ he hl => ⟨rfl, hl, he⟩
  | cons p ps ih =>
    intro x Ss P q y h hm he hl
    simp only [List.length_cons] at hm
    obtain ⟨p1, p2, p3⟩ := Eqv.put h he hl size p
    obtain ⟨S2, P2, q2, _, _, l2, _, al2⟩ := put_plain h (by omega) size p (hps p (by simp))
    rw [putsD, rputsD]
    by_cases hc : (putD size x p).2 = 0
    · rw [if_pos hc, if_pos (by rw [← p1]; exact hc)]
      exact ih (fun q hq => hps q (by simp [hq])) (al2 hc).1 (by omega) p3 p2
    · rw [if_neg hc, if_neg (by rw [← p1]; exact hc)]
      exact ⟨p1, p2, p3⟩
end Go.Proofs.YteamnhpplclmfaaGreatDoor
end
section
namespace Go.Proofs.YteamnhpplclmfaaGreatDoor
open Go.RowKit Go.Sx
set_option linter.unusedVariables false
/-- stores that are the same, but for the length, which the reference does not keep -/
structure Sm (S S' : Sr) : Prop where
  z : S.size = S'.size
  p : S.pl = S'.pl
  u : S.sure = S'.sure
  l : S.last = S'.last
  k : S.stuck = S'.stuck
theorem Sm.refl (S : Sr) : Sm S S := ⟨rfl, rfl, rfl, rfl, rfl⟩
/-- Append «as» the reference has it -/
def rappendS (x : Sd) (ps : List Bs) : Sd × Nat :=
  if x.S.stuck ≠ 0 then (x, x.S.stuck)
  else if ps.any (fun p => decide (65536 < p.length)) = true then (x, 10)
  else if (x.D.quota : Int) - usedD x.D.files < needP { x.S with length := rlenP x.D x.S.last } ps then (⟨{ x.S with stuck := 3 }, x.D⟩, 3)
  else if x.D.gone = true then (⟨{ x.S with stuck := 4 }, x.D⟩, 4)
  else if (rputsD x.S.size ⟨x.D, x.S.last⟩ ps).2 = 0 then
    (⟨{ x.S with pl := x.S.pl ++ ps, last := (rputsD x.S.size ⟨x.D, x.S.last⟩ ps).1.last }, (rputsD x.S.size ⟨x.D, x.S.last⟩ ps).1.M⟩, 0)
  else (⟨{ x.S with stuck := (rputsD x.S.size ⟨x.D, x.S.last⟩ ps).2 }, (rputsD x.S.size ⟨x.D, x.S.last⟩ ps).1.M⟩, (rputsD x.S.size ⟨x.D, x.S.last⟩ ps).2)
theorem eqv_append {D M : Dk} (h : Eqv D M) {S S' : Sr} (hS : Sm S S') {Ss : List (List Bs)} {P : List Bs} {q : Nat} (al : S.stuck = 0 → Al ⟨D, S.last, S.length⟩ Ss P q) (ps : List Bs) (hm : Ss.length + ps.length < 100000) :
    (appendS ⟨S, D⟩ ps).2 = (rappendS ⟨S', M⟩ ps).2 ∧ Sm (appendS ⟨S, D⟩ ps).1.S (rappendS ⟨S', M⟩ ps).1.S ∧ Eqv (appendS ⟨S, D⟩ ps).1.D (rappendS ⟨S', M⟩ ps).1.D := by
  obtain ⟨z', p', u', l', n', k'⟩ := S'
  obtain ⟨e1, e2, e3, e4, e5⟩ := hS
  dsimp only at e1 e2 e3 e4 e5
  subst e1 e2 e3 e4 e5
  have hS : Sm S ⟨S.size, S.pl, S.sure, S.last, n', S.stuck⟩ := ⟨rfl, rfl, rfl, rfl, rfl⟩
  unfold appendS rappendS
  dsimp only
  rw [← h.qt, h.f.used, ← h.gn]
  by_cases hst : S.stuck ≠ 0
  · rw [if_pos hst, if_pos hst]
    exact ⟨rfl, hS, h⟩
  rw [if_neg hst, if_neg hst]
  have hal := al (by simpa using hst)
  have hlen : rlenP M S.last = S.length := rlen_al hal h
  have hneed : needP ⟨S.size, S.pl, S.sure, S.last, rlenP M S.last, S.stuck⟩ ps = needP S ps := by
    unfold needP
    rw [hlen]
  rw [hneed]
  by_cases hb : (ps.any fun p => decide (65536 < p.length)) = true
  · rw [if_pos hb, if_pos hb]
    exact ⟨rfl, hS, h⟩
  rw [if_neg hb, if_neg hb]
  split
  · exact ⟨rfl, ⟨hS.z, hS.p, hS.u, hS.l, rfl⟩, h⟩
  split
  · exact ⟨rfl, ⟨hS.z, hS.p, hS.u, hS.l, rfl⟩, h⟩
  have hps : ∀ p ∈ ps, p.length ≤ 65536 := fun p hp => by
    have : (ps.any fun p => decide (65536 < p.length)) = false := by simpa using hb
    have := List.any_eq_false.1 this p hp
    simpa using this
  obtain ⟨p1, p2, p3⟩ := Eqv.puts S.size ps hps (y := ⟨M, S.last⟩) hal hm h rfl
  rw [← p1]
  split
  · exact ⟨rfl, ⟨hS.z, rfl, rfl, p2, rfl⟩, p3⟩
  · exact ⟨rfl, ⟨hS.z, hS.p, hS.u, hS.l, rfl⟩, p3⟩
theorem eqv_sync {D M : Dk} (h : Eqv D M) {S S' : Sr} (hS : Sm S S') : (syncS ⟨S, D⟩).2 = (rsyncS ⟨S', M⟩).2 ∧ Sm (syncS ⟨S, D⟩).1.S (rsyncS ⟨S', M⟩).1.S ∧ Eqv (syncS ⟨S, D⟩).1.D (rsyncS ⟨S', M⟩).1.D := by
  obtain ⟨h1, h2, h3⟩ := h.syncS S
  obtain ⟨z', p', u', l', n', k'⟩ := S'
  obtain ⟨e1, e2, e3, e4, e5⟩ := hS
  dsimp only at e1 e2 e3 e4 e5
  subst e1 e2 e3 e4 e5
  have hS : Sm S ⟨S.size, S.pl, S.sure, S.last, n', S.stuck⟩ := ⟨rfl, rfl, rfl, rfl, rfl⟩
  have e : (rsyncS ⟨S, M⟩).2 = (rsyncS ⟨⟨S.size, S.pl, S.sure, S.last, n', S.stuck⟩, M⟩).2 ∧ Sm (rsyncS ⟨S, M⟩).1.S (rsyncS ⟨⟨S.size, S.pl, S.sure, S.last, n', S.stuck⟩, M⟩).1.S ∧ (rsyncS ⟨S, M⟩).1.D = (rsyncS ⟨⟨S.size, S.pl, S.sure, S.last, n', S.stuck⟩, M⟩).1.D := by
    unfold rsyncS
    dsimp only
    split
    · exact ⟨rfl, hS, rfl⟩
    split
    · exact ⟨rfl, ⟨rfl, rfl, rfl, rfl, rfl⟩, rfl⟩
    split
    · split
      · exact ⟨rfl, ⟨rfl, rfl, rfl, rfl, rfl⟩, rfl⟩
      · exact ⟨rfl, ⟨rfl, rfl, rfl, rfl, rfl⟩, rfl⟩
    · exact ⟨rfl, ⟨rfl, rfl, rfl, rfl, rfl⟩, rfl⟩
  exact ⟨h1.trans e.1, by rw [h2]; exact e.2.1, by rw [← e.2.2]; exact h3⟩
end Go.Proofs.YteamnhpplclmfaaGreatDoor
end
section
namespace Go.Proofs.YteamnhpplclmfaaGreatDoor
open Go.RowKit Go.Sx
set_option linter.unusedVariables false
/-- a store of the reference, its row and its payloads -/
structure Ry where
  M : Dk
  fa : Option Addr
  fc : Nat
  ps : List PF
  va : Option Addr
  vc : Nat
  vs : List Value
  S : Sr
  rr : Nat → Prop
abbrev ryC (y : Ry) : Array Value := rsC y.M (.slice y.fa y.ps.length y.fc) y.S (.slice y.va y.S.pl.length y.vc)
def ryR (y : Ry) : Res where
  w _ := False
  r := y.rr
  p u := ((mP y.rr y.fa y.ps).p u ∧ RdB y.rr u (.slice y.va y.S.pl.length y.vc) y.vs) ∧ ∀ (i : Nat) v p, y.vs[i]? = some v → y.S.pl[i]? = some p → RdB y.rr u v (Lib.byteCells p)
  st u v h := fun ⟨⟨h1, h2⟩, h3⟩ => ⟨⟨(mP y.rr y.fa y.ps).st u v (fun k hk => h k hk) h1, h2.same fun k hk => h k (.inr hk)⟩, fun i v p hv hp => (h3 i v p hv hp).same fun k hk => h k (.inr hk)⟩
  bd u := fun h k hk => (mP y.rr y.fa y.ps).bd u h.1.1 k hk
structure RyOk (y : Ry) : Prop where
  fs : y.ps.map (·.2) = y.M.files
  sh : PsOk y.fa y.ps
  pls : Pls y.vs y.S.pl
theorem ryC_one (y : Ry) : (ryC y).toList.all (·.oneCell') = true := rfl
theorem RyOk.rfs {y : Ry} {u : World} (h : RyOk y) (hp : (ryR y).p u) : RFs y.rr u (.slice y.fa y.ps.length y.fc) y.M.files := by
  rw [← h.fs]; exact mP_rfs hp.1.1
theorem ryR_lt {y : Ry} {u : World} (hp : (ryR y).p u) : ∀ k, y.rr k → k < u.heap.size := hp.1.1.2
theorem mP_mono {rr rr' : Nat → Prop} {fa : Option Addr} {ps : List PF} {u : World} (hr : ∀ k, rr k → rr' k) (hl : ∀ k, rr' k → k < u.heap.size) (h : (mP rr fa ps).p u) : (mP rr' fa ps).p u :=
  ⟨⟨fun p hp => (h.1.1 p hp).mono hr, fun hne => by obtain ⟨b, o, g1, g2, g3, g4⟩ := h.1.2 hne; exact ⟨b, o, g1, g2, hr b g3, g4⟩⟩, hl⟩
/-- what a function of the reference's store hands back -/
def RefQ (rr0 : Nat → Prop) (w : World) (D' : Dk) (S' : Sr) (code : Nat) (e : Ending) (w' : World) : Prop :=
  ∃ y : Ry, RyOk y ∧ y.M = D' ∧ y.S = S' ∧ e = .returned (.tuple #[.agg (ryC y), .int .i64 code]) ∧ Below w.heap.size w w' ∧ (ryR y).p w' ∧ ∀ k, y.rr k → rr0 k ∨ w.heap.size ≤ k
/-- other files, the same payloads -/
def Ry.on (y : Ry) (F : Fl) : Ry := ⟨F.M, F.fa, F.fc, F.ps, y.va, y.vc, y.vs, y.S, F.rr⟩
section
variable {C : Cx} {L : List Ent}
/-- the reference's disk turns in a store -/
theorem cRd (k : Nat) {g : FuncId} {vs : List Value} {M' : Dk} {code : Nat} {y : Ry} {next : Value → List Ent → Prop} (hok : RyOk y) (hk : L[k]? = some (rs (ryR y)))
    (h : ∀ w, St C.M C.B w L → Calls C.P g vs.toArray w (RefR y.rr w M' code))
    (go : ∀ F : Fl, F.M = M' → RyOk (y.on F) → (∀ j, F.rr j → y.rr j ∨ C.B.heap.size ≤ j) → next (.tuple #[.agg (rdC M' (.slice F.fa F.ps.length F.fc)), .int .i64 code]) (L.set k (rs (ryR (y.on F))))) : CallP C g vs L next := by
  refine ⟨fun w hs => (h w hs).mono fun e w' ⟨fv', rr', he, hb, hf, hr⟩ => ?_⟩
  obtain ⟨ps', fa', fc', h1, rfl, h2, h3⟩ := rfs_mP hf
  have hp := hs.res hk
  have hp' : (ryR y).p w' := (ryR y).st w w' (fun j hj => hb.block j ((ryR y).bd w hp j hj)) hp
  have hl : ∀ j, (y.rr j ∨ (rr' j ∧ j < w'.heap.size)) → j < w'.heap.size := fun j hj => hj.elim (ryR_lt hp' j) (·.2)
  refine ⟨_, _, he, St.place (hs.push hb ?_ (fun k hk => by simp [ryR] at hk) (fun j hj => ?_)) k, go ⟨M', fa', fc', ps', fun j => y.rr j ∨ (rr' j ∧ j < w'.heap.size)⟩ rfl ⟨h1, h2, hok.pls⟩ (fun j hj => hj.elim .inl fun hj => (hr j hj.1).imp id (Nat.le_trans hs.size))⟩
  · rw [rsOk]
    exact ⟨⟨mP_mono (fun j hj => .inr hj) hl h3, hp'.1.2.mono fun j hj => .inl hj⟩, fun i v p hv hq => (hp'.2 i v p hv hq).mono fun j hj => .inl hj⟩
  · have h2 : y.rr j ∨ (rr' j ∧ j < w'.heap.size) := by simpa [ryR, Ry.on] using hj
    rcases h2 with h2 | h2
    · exact .inr ⟨_, List.mem_of_getElem? hk, (rsA _ _).2 (.inr h2), by simp [ryR]⟩
    · rcases hr j h2.1 with h4 | h4
      · exact .inr ⟨_, List.mem_of_getElem? hk, (rsA _ _).2 (.inr h4), by simp [ryR]⟩
      · exact .inl h4
/-- a function of the reference's store is called -/
theorem cRq (k : Nat) {g : FuncId} {vs : List Value} {D' : Dk} {S' : Sr} {code : Nat} {y : Ry} {next : Value → List Ent → Prop} (hk : L[k]? = some (rs (ryR y)))
    (h : ∀ w, St C.M C.B w L → Calls C.P g vs.toArray w (RefQ y.rr w D' S' code))
    (go : ∀ z : Ry, RyOk z → z.M = D' → z.S = S' → next (.tuple #[.agg (ryC z), .int .i64 code]) (L.set k (rs (ryR z)))) : CallP C g vs L next := by
  refine ⟨fun w hs => (h w hs).mono fun e w' ⟨z, hok, hM, hS, he, hb, hp, hr⟩ => ⟨_, _, he, St.place (hs.push hb ?_ (fun k hk => by simp [ryR] at hk) (fun j hj => ?_)) k, go z hok hM hS⟩⟩
  · rw [rsOk]; exact hp
  · have h2 : z.rr j := by simpa [ryR] using hj
    rcases hr j h2 with h1 | h1
    · exact .inr ⟨_, List.mem_of_getElem? hk, (rsA _ _).2 (.inr h1), by simp [ryR]⟩
    · exact .inl h1
end
theorem setd {L : List Ent} {k i : Nat} {e f : Ent} (h : L[i]? = some f) (hki : k ≠ i) : (L.set k e)[i]? = some f := by rw [List.getElem?_set_ne hki]; exact h
/-- three entries become one -/
theorem St.merge3 {M : Bks} {B w : World} {L : List Ent} (h : St M B w L) {k i j : Nat} {x y z e' : Ent} (hk : L[k]? = some x) (hi : L[i]? = some y) (hj : L[j]? = some z) (hki : k ≠ i) (hkj : k ≠ j) (hij : i ≠ j) (ok : e'.Ok w) (W : ∀ b, e'.W b → x.W b ∨ y.W b ∨ z.W b) (A : ∀ b, e'.A b → x.A b ∨ y.A b ∨ z.A b) : St M B w ((((L.set i dead).set k (rs (mres [x, y]))).set j dead).set k e') := by
  have h1 := St.merge h hk hi hki (e' := rs (mres [x, y])) ((rsOk _ _).2 ⟨fun e he => by
    simp only [List.mem_cons, List.not_mem_nil, or_false] at he
    rcases he with rfl | rfl
    · exact h.ok _ (List.mem_of_getElem? hk)
    · exact h.ok _ (List.mem_of_getElem? hi), .cons (fun e he => by obtain rfl := List.mem_singleton.1 he; exact pw_ne h.apart hk hi hki) (by simp)⟩) (fun b hb => by
    obtain ⟨e, he, hb2⟩ := (mresW _ _).1 hb
    simp only [List.mem_cons, List.not_mem_nil, or_false] at he
    rcases he with rfl | rfl
    · exact .inl hb2
    · exact .inr hb2) (fun b hb => by
    obtain ⟨e, he, hb2⟩ := (mresA _ _).1 hb
    simp only [List.mem_cons, List.not_mem_nil, or_false] at he
    rcases he with rfl | rfl
    · exact .inl hb2
    · exact .inr hb2)
  have hkl : k < (L.set i dead).length := by rw [List.length_set]; exact (List.getElem?_eq_some_iff.1 hk).1
  refine St.merge h1 (x := rs (mres [x, y])) (List.getElem?_set_self hkl) (setd (setd hj hij) hkj) hkj ok (fun b hb => ?_) (fun b hb => ?_)
  · rcases W b hb with h2 | h2 | h2
    · exact .inl ((mresW _ _).2 ⟨x, by simp, h2⟩)
    · exact .inl ((mresW _ _).2 ⟨y, by simp, h2⟩)
    · exact .inr h2
  · rcases A b hb with h2 | h2 | h2
    · exact .inl ((mresA _ _).2 ⟨x, by simp, h2⟩)
    · exact .inl ((mresA _ _).2 ⟨y, by simp, h2⟩)
    · exact .inr h2
/-- one payload more: its bytes and the new row are held with the store -/
def Ry.add (y : Ry) (va : Option Addr) (vc : Nat) (v : Value) (p : Bs) (r3 r2 : Sx.Own) : Ry := ⟨y.M, y.fa, y.fc, y.ps, va, vc, y.vs ++ [v], { y.S with pl := y.S.pl ++ [p] }, fun j => y.rr j ∨ rowB r3 j ∨ rowB r2 j⟩
theorem own_rdb {M : Bks} {B w : World} {L : List Ent} (hs : St M B w L) (k : Nat) {r : Sx.Own} {n : Nat} {xs : List Value} {e : TypeId} (hk : L[k]? = some (se r xs e)) (hR : Rw 1 n r xs) : RdB (rowB r) w (sv r n) xs :=
  rdb_of (Rd.own hs k hk hR) fun b o m c h hne => by
    cases r with
    | none => injection h with h1; cases h1
    | some q =>
      obtain ⟨b0, c0, j0⟩ := q
      injection h with h1 _ _
      injection h1 with h1
      injection h1 with h1 _ _
      exact ⟨_, _, _, rfl, h1.symm⟩
theorem se_own {r : Sx.Own} {xs : List Value} {e : TypeId} {b : Nat} (h : rowB r b) : (se r xs e).A b := by
  obtain ⟨b, c, j', rfl, rfl⟩ := h; simp [se]
theorem add_pay {M : Bks} {B w : World} {L : List Ent} (h : St M B w L) {k i j : Nat} {y : Ry} {r3 r2 : Sx.Own} {va : Option Addr} {vc : Nat} {v : Value} {p : Bs} (hok : RyOk y) (hk : L[k]? = some (rs (ryR y))) (hi : L[i]? = some (se r3 (y.vs ++ [v]) TB)) (hj : L[j]? = some (se r2 (Lib.byteCells p) 5)) (hki : k ≠ i) (hkj : k ≠ j) (hij : i ≠ j)
    (hR3 : Rw 1 (y.S.pl.length + 1) r3 (y.vs ++ [v])) (hv3 : sv r3 (y.S.pl.length + 1) = .slice va (y.S.pl.length + 1) vc) (hR2 : Rw 1 p.length r2 (Lib.byteCells p)) (hv : v = sv r2 p.length) :
    St M B w ((((L.set i dead).set k (rs (mres [rs (ryR y), se r3 (y.vs ++ [v]) TB]))).set j dead).set k (rs (ryR (y.add va vc v p r3 r2)))) := by
  have hp := h.res hk
  have h3 := own_rdb h i hi hR3
  have h2 := own_rdb h j hj hR2
  rw [hv3] at h3
  rw [← hv] at h2
  have hlt : ∀ b, (y.add va vc v p r3 r2).rr b → b < w.heap.size := fun b hb => by
    rcases hb with hb | hb | hb
    · exact ryR_lt hp b hb
    · exact h.ltA (List.mem_of_getElem? hi) (se_own hb)
    · exact h.ltA (List.mem_of_getElem? hj) (se_own hb)
  refine St.merge3 h hk hi hj hki hkj hij ((rsOk _ _).2 ⟨⟨mP_mono (fun b hb => .inl hb) hlt hp.1.1, ?_⟩, fun a u q hu hq => ?_⟩) (fun b hb => ((rsW _ _).1 hb).elim) (fun b hb => ?_)
  · have := h3.mono (rr' := (y.add va vc v p r3 r2).rr) (fun b hb => .inr (.inl hb))
    rw [show y.S.pl.length + 1 = (y.S.pl ++ [p]).length by simp] at this
    exact this
  · have hl := hok.pls.len
    by_cases ha : a < y.vs.length
    · have hu' : (y.vs ++ [v])[a]? = some u := hu
      have hq' : (y.S.pl ++ [p])[a]? = some q := hq
      rw [List.getElem?_append_left ha] at hu'
      rw [List.getElem?_append_left (by rw [← hl]; exact ha)] at hq'
      exact (hp.2 a u q hu' hq').mono fun b hb => .inl hb
    · have hu' : (y.vs ++ [v])[a]? = some u := hu
      have hq' : (y.S.pl ++ [p])[a]? = some q := hq
      rw [List.getElem?_append_right (by omega)] at hu'
      rw [List.getElem?_append_right (by rw [← hl]; omega), ← hl] at hq'
      obtain ⟨m, hm⟩ : ∃ m, m = a - y.vs.length := ⟨_, rfl⟩
      rw [← hm] at hu' hq'
      match m with
      | 0 =>
        obtain rfl := Option.some.inj hu'
        obtain rfl := Option.some.inj hq'
        exact h2.mono fun b hb => .inr (.inr hb)
      | m + 1 => simp at hu'
  · rcases (rsA _ _).1 hb with hb | hb
    · exact hb.elim
    · rcases hb with hb | hb | hb
      · exact .inl ((rsA _ _).2 (.inr hb))
      · exact .inr (.inl (se_own hb))
      · exact .inr (.inr (se_own hb))
end Go.Proofs.YteamnhpplclmfaaGreatDoor
end
section
namespace Go.Proofs.YteamnhpplclmfaaGreatDoor
open Go.RowKit Go.Sx
set_option linter.unusedVariables false
set_option linter.unusedSimpArgs false
theorem bsRow0 (w : World) : (Instr.buildSlice 36 0 #[]).run Tryz.prog w = .ok (.slice (some ⟨w.heap.size, 0, none⟩) 0 0) (w.alloc (.cells #[] TB)) := by
  obtain ⟨i, hi, hz, hs, hb⟩ := infoOf infoS
  simp [Instr.buildSlice, run_underlying undSS, sizeOf, typeInfo, hi, newRow, Instr.fill]
  exact congrArg (fun c => w.alloc (.cells c TB)) (Array.ext' (by simp))
theorem ry_same {y0 : Ry} {w w1 : World} (hb : Below w.heap.size w w1) (h0 : (ryR y0).p w) : (ryR y0).p w1 := (ryR y0).st w w1 (fun j hj => hb.block j ((ryR y0).bd w h0 j hj)) h0
theorem biImpW {C : Cx} {ts : Array TypeId} {t : TypeId} {cs : Array Bool} {vs : List Value} {L : List Ent} {next next' : Value → List Ent → Prop} (h : BiP C .append ts t cs vs L next') (hn : ∀ w' v L', St C.M C.B w' L' → next' v L' → ∃ L'', St C.M C.B w' L'' ∧ next v L'') : BiP C .append ts t cs vs L next := by
  refine apRun fun w hs => ?_
  have h1 := h.go w hs
  cases hr : (Builtin.append_ ts t vs.toArray).run C.P w with
  | ok r w' =>
    have : (builtin .append ts t cs vs.toArray).run C.P w = .ok (.value r) w' := by simp [builtin, hr]
    rw [this] at h1
    obtain ⟨L', h2, h3⟩ := h1
    obtain ⟨L'', h4, h5⟩ := hn w' r L' h2 h3
    exact ⟨r, w', L'', rfl, h4, h5⟩
  | _ =>
    exfalso
    simp [builtin, hr, Sx.Fin] at h1
theorem rlen_le {q k : Nat} {M : Dk} (h : Rb q k M) (n : Nat) : rlenP M n ≤ q := by
  unfold rlenP
  cases hf : findF (nameS n) M.files with
  | none => exact Nat.zero_le _
  | some f => exact h.fz f (findF_mem hf).1
/-- a store's payloads, other files -/
def Ry.was (y y0 : Ry) (code : Nat) : Ry := ⟨y.M, y.fa, y.fc, y.ps, y0.va, y0.vc, y0.vs, { y0.S with stuck := code }, fun j => y0.rr j ∨ y.rr j⟩
theorem rap_fail {y0 y : Ry} {w w1 : World} {L : List Ent} {v : Value} {code : Nat} {res : Sd × Nat} (hok0 : RyOk y0) (h0 : (ryR y0).p w) (hok : RyOk y) (hrr : ∀ j, y.rr j → y0.rr j ∨ w.heap.size ≤ j) (hs : St [] w w1 L) (hL : L[0]? = some (rs (ryR y))) (hres : res = (⟨{ y0.S with stuck := code }, y.M⟩, code))
    (hv : v = .tuple #[.agg (ryC (y.was y0 code)), .int .i64 code]) : RefQ y0.rr w res.1.D res.1.S res.2 (.returned v) w1 := by
  subst hres
  have hp := hs.res hL
  have hp0 := ry_same hs.below h0
  refine ⟨y.was y0 code, ⟨hok.fs, hok.sh, hok0.pls⟩, rfl, rfl, by rw [hv], hs.below, ⟨⟨mP_mono (fun j hj => .inr hj) (fun j hj => hj.elim (ryR_lt hp0 j) (ryR_lt hp j)) hp.1.1, hp0.1.2.mono fun j hj => .inl hj⟩, fun i u q hu hq => (hp0.2 i u q hu hq).mono fun j hj => .inl hj⟩, fun j hj => hj.elim .inl (hrr j)⟩
theorem rap_done {y0 y : Ry} {w w1 : World} {L : List Ent} {v : Value} {code : Nat} {res : Sd × Nat} (hok : RyOk y) (hrr : ∀ j, y.rr j → y0.rr j ∨ w.heap.size ≤ j) (hs : St [] w w1 L) (hL : L[0]? = some (rs (ryR y))) (hres : res = (⟨y.S, y.M⟩, code)) (hv : v = .tuple #[.agg (ryC y), .int .i64 code]) : RefQ y0.rr w res.1.D res.1.S res.2 (.returned v) w1 := by
  subst hres
  exact ⟨y, hok, rfl, rfl, by rw [hv], hs.below, hs.res hL, hrr⟩
def Ry.nx (y : Ry) : Ry := { y with S := { y.S with last := y.S.last + 1 } }
structure PuOk (w : World) (y0 : Ry) (ps : List Bs) (q k : Nat) (i : Nat) (y : Ry) : Prop where
  le : i ≤ ps.length
  ok : RyOk y
  rr : ∀ j, y.rr j → y0.rr j ∨ w.heap.size ≤ j
  S : y.S = { y0.S with pl := y0.S.pl ++ ps.take i, last := y.S.last }
  go : rputsD y0.S.size ⟨y0.M, y0.S.last⟩ ps = rputsD y0.S.size ⟨y.M, y.S.last⟩ (ps.drop i)
  bd : Rb q (k + 5 * i) y.M
  la : y.S.last ≤ y0.S.last + i
set_option maxRecDepth 100000 in
set_option maxHeartbeats 8000000 in
theorem rap_puts {y0 : Ry} {w : World} {b2 b4 b12 : Nat} {z : Array Value} (hz : z.size = 11) (hok0 : RyOk y0) (h0 : (ryR y0).p w) {pa : Option Addr} {pc : Nat} {us : List Value} {ps : List Bs} (hI : PayIn w pa pc us ps) (hps : ∀ p ∈ ps, p.length ≤ 65536) (hpc : ps.length ≤ 100) (hln : y0.S.pl.length ≤ 1000000) (hl0 : y0.S.last ≤ 2000000)
    {q k : Nat} (hB : Rb q k y0.M) (hk : k ≤ 300000) (hq : q ≤ 16777216) {res : Sd × Nat}
    (hres0 : (rputsD y0.S.size ⟨y0.M, y0.S.last⟩ ps).2 = 0 → res = (⟨{ y0.S with pl := y0.S.pl ++ ps, last := (rputsD y0.S.size ⟨y0.M, y0.S.last⟩ ps).1.last }, (rputsD y0.S.size ⟨y0.M, y0.S.last⟩ ps).1.M⟩, 0))
    (hres1 : (rputsD y0.S.size ⟨y0.M, y0.S.last⟩ ps).2 ≠ 0 → res = (⟨{ y0.S with stuck := (rputsD y0.S.size ⟨y0.M, y0.S.last⟩ ps).2 }, (rputsD y0.S.size ⟨y0.M, y0.S.last⟩ ps).1.M⟩, (rputsD y0.S.size ⟨y0.M, y0.S.last⟩ ps).2)) :
    CodeP ⟨Tryz.prog, tab, 207, [], w, none⟩ (dropS 10 ((Tryz.f29.body).getD .skip)) (retK ⟨Tryz.prog, tab, 207, [], w, none⟩ Tryz.f29 (fun v w' => RefQ y0.rr w res.1.D res.1.S res.2 (.returned v) w')) ⟨[(1, .slice pa ps.length pc), (2, ptr b2), (4, ptr b4), (12, ptr b12)], [rs (ryR y0), cl b2 (ryC y0) TRS, cl b4 z TRS, cl b12 (ryC y0) TRS], []⟩ := by
  refine cx_ok tab_ok _ _ _ ?_
  refine lp tab_ok (fun y : Nat × Ry => PuOk w y0 ps q k y.1 y.2) (fun y => ⟨[(1, .slice pa ps.length pc), (2, ptr b2), (4, ptr b4), (12, ptr b12), (13, .int .i64 y.1)], [rs (ryR y.2), cl b2 (ryC y.2) TRS, cl b4 z TRS, cl b12 (ryC y0) TRS], []⟩) (fun y => ps.length - y.1)
    (0, y0) ⟨Nat.zero_le _, hok0, fun j hj => .inl hj, by rw [List.take_zero, List.append_nil], rfl, hB, Nat.le_refl _⟩ ⟨⟨rfl, rfl, rfl, rfl, rfl, trivial⟩, Sub.refl _, rfl⟩ ?_
  rintro ⟨i, y⟩ ⟨hi, hok, hrr, hS, hgo, hbd, hla⟩
  dsimp only at hi hok hrr hS hgo hbd hla ⊢
  have hyz : y.S.size = y0.S.size := by rw [hS]
  have hypl : y.S.pl = y0.S.pl ++ ps.take i := by rw [hS]
  have hypn : y.S.pl.length ≤ 1000100 := by rw [hypl, List.length_append, List.length_take]; omega
  refine cd (fun h => ?_) (fun h => ?_)
  case refine_2 =>
    obtain rfl : i = ps.length := by omega
    rw [List.drop_length, rputsD] at hgo
    rw [List.take_length] at hS
    refine ldN 1 rfl rfl ?_
    refine sN 2 rfl (by rw [hz]; rfl) (ryC_one _) ?_ (by kernel_rfl)
    refine ldN 2 rfl rfl ?_
    exact ⟨fun w1 hs => rap_done hok hrr hs rfl (by rw [hres0 (by rw [hgo]), hgo]; rw [hS]) rfl⟩
  have hlt : i < ps.length := by omega
  have hne : us ≠ [] := fun e => by have := hI.pls.len; rw [e] at this; simp at this; omega
  obtain ⟨pb, po, rfl⟩ := hI.row.addr hne
  obtain ⟨qa, qc, hpv⟩ := hI.pls.at (i := i) (p := ps[i]) (by simp [hlt])
  have hel := hI.el i _ ps[i] hpv (by simp [hlt])
  have hp6 := hps _ (List.getElem_mem hlt)
  have htk : ps.take (i + 1) = ps.take i ++ [ps[i]] := List.take_succ_eq_append_getElem hlt
  rw [List.drop_eq_getElem_cons hlt, rputsD] at hgo
  generalize ps[i] = p at hpv hel hp6 htk hgo
  have hfl := hbd.fl
  refine ⟨by omega, by omega, ?_⟩
  refine ldo (hI.row.at hpv rfl) (hI.row.lt0 hne) ?_
  refine coV (n := (recP p).length) (z := 1) (xs := Lib.byteCells (recP p)) (e := 5) (fun v => .tuple #[v, .bool true]) (fun w1 hs => rput_any _ p hp6 w1 (hel.below hs.below)) (fun rb hRb => ?_)
  obtain ⟨ba, bc, hbv⟩ := sv_sl hRb
  rw [hbv]
  have hrl := rec_len p
  obtain ⟨l, hl⟩ : ∃ l, l = rlenP y.M y.S.last := ⟨_, rfl⟩
  have hlq := rlen_le hbd y.S.last
  rw [← hl] at hlq
  refine cut (α := Unit) (fun _ => True) (fun _ => ⟨[(1, .slice (some ⟨pb, po, none⟩) ps.length pc), (2, ptr b2), (4, ptr b4), (12, ptr b12), (13, .int .i64 i), (14, .slice ba (recP p).length bc), (16, .int .i64 0), (117, .bool (begP y.S.size l (8 + p.length)))], [rs (ryR y), cl b2 (ryC y) TRS, cl b4 z TRS, cl b12 (ryC y0) TRS, se rb (Lib.byteCells (recP p)) 5], []⟩) ?_ ?_
  · refine dr [rs (ryR y), cl b2 (ryC y) TRS, dead, dead, dead] 99 (.t 0 (.t 1 (.t 2 (.t 3 (.t 4 (.t 5 (.t 6 (.t 7 (.t 8 (.t 9 (.t 10 (.t 11 (.t 12 .nil))))))))))))) tab_ok mixed_ok (by kernel_rfl) (.cons (.cons (.dead (.dead (.dead .nil))))) ?_
    refine ldN 1 rfl rfl ?_
    refine czs (v := .int .i64 l) (fun w1 hs => by rw [hl]; exact rlen_any y.M _ y.S _ y.rr (by omega) (by omega) w1 (hok.rfs (hs.res (k := 0) rfl)) (ryR_lt (hs.res (k := 0) rfl))) ?_
    by_cases h0l : 0 < l
    · have d1 : decide (((l : Nat) : Int) > 0) = true := decide_eq_true (by omega)
      have d2 : (decide (((l : Nat) : Int) > 0) == true) = true := by rw [d1]; rfl
      refine ct d2 ?_
      refine ldN 1 rfl rfl ?_
      refine ct d2 ?_
      refine czs (v := .int .i64 l) (fun w1 hs => by rw [hl]; exact rlen_any y.M _ y.S _ y.rr (by omega) (by omega) w1 (hok.rfs (hs.res (k := 0) rfl)) (ryR_lt (hs.res (k := 0) rfl))) ?_
      iterate 3 refine ct d2 ?_
      refine .as ((l + (recP p).length : Nat) : Int) (by omega) (by simp only [mn]; omega) (by simp only [mx]; omega) ?_
      iterate 2 refine ct d2 ?_
      refine ld1 1 rfl (v := .int .i64 y.S.size) rfl ?_
      refine ct d2 ?_
      refine ct d1 ?_
      refine ⟨(), trivial, ⟨⟨rfl, rfl, rfl, rfl, rfl, rfl, rfl, congrArg (fun b => some (Value.bool b)) ?_, trivial⟩, Sub.refl _, rfl⟩⟩
      show decide (((l + (recP p).length : Nat) : Int) > (y.S.size : Int)) = begP y.S.size l (8 + p.length)
      unfold begP
      rw [decide_eq_true h0l, Bool.true_and, hrl, Bool.eq_iff_iff, decide_eq_true_eq, decide_eq_true_eq]; omega
    · have d1 : decide (((l : Nat) : Int) > 0) = false := decide_eq_false (by omega)
      have d2 : (decide (((l : Nat) : Int) > 0) == true) = false := by rw [d1]; rfl
      repeat (first | refine cf d2 ?_ | refine cf d1 ?_)
      refine ⟨(), trivial, ⟨⟨rfl, rfl, rfl, rfl, rfl, rfl, rfl, congrArg (fun b => some (Value.bool b)) ?_, trivial⟩, Sub.refl _, rfl⟩⟩
      show false = begP y.S.size l (8 + p.length)
      unfold begP
      rw [decide_eq_false h0l, Bool.false_and]
  intro _ _
  have hgoD : rgoD y0.S.size ⟨y.M, y.S.last⟩ p = if begP y.S.size l (8 + p.length) = true then (if (rnextD y.M y.S.last).2 = 0 then (⟨(rnextD y.M y.S.last).1, y.S.last + 1⟩, 0) else (⟨(rnextD y.M y.S.last).1, y.S.last⟩, (rnextD y.M y.S.last).2)) else (⟨y.M, y.S.last⟩, 0) := by
    unfold rgoD; dsimp only; rw [← hl, hyz]
  cases hb : begP y.S.size l (8 + p.length) with
  | false =>
    rw [hb, if_neg (by decide)] at hgoD
    refine cf rfl ?_
    have e1 : rputD y0.S.size ⟨y.M, y.S.last⟩ p = (⟨(rappendD y.M (nameS y.S.last) (recP p)).1, y.S.last⟩, (rappendD y.M (nameS y.S.last) (recP p)).2) := by
      unfold rputD; rw [hgoD, if_pos rfl]
    obtain ⟨x1, hx1⟩ : ∃ x1, x1 = rappendD (y).M (nameS (y).S.last) (recP p) := ⟨_, rfl⟩
    rw [← hx1] at e1
    rw [e1] at hgo
    have hb1 : Rb q _ (rappendD (y).M (nameS (y).S.last) (recP p)).1 := (hbd).append (nameS (y).S.last) (recP p)
    rw [← hx1] at hb1
    refine ct rfl ?_
    refine cut (α := Fl) (fun F => F.M = x1.1 ∧ RyOk ((y).on F) ∧ ∀ j, F.rr j → y0.rr j ∨ w.heap.size ≤ j) (fun F => ⟨[(1, .slice (some ⟨pb, po, none⟩) ps.length pc), (2, ptr b2), (4, ptr b4), (12, ptr b12), (13, .int .i64 i), (16, .int .i64 x1.2)], [rs (ryR ((y).on F)), cl b2 (ryC ((y).on F)) TRS, cl b4 z TRS, cl b12 (ryC y0) TRS], []⟩) ?_ ?_
    · refine drs [dead, cl b2 (ryC (y)) TRS] [8, 9, 10, 11, 12] (.t 0 (.t 1 (.t 2 (.t 3 (.t 4 (.t 5 (.n 6 (.t 7 (.b 8 9 (.b 9 10 (.n 10 (.n 11 (.n 12 .nil))) (.b 9 11 (.n 11 (.n 12 .nil)) (.n 9 (.n 12 .nil)))) (.n 8 (.n 10 (.n 11 (.n 12 .nil))))))))))))) tab_ok mixed_ok (by kernel_rfl) (.dead (.cons (.drop (.drop (.drop .nil))))) ?_
      refine ldP 1 (d := rdC (y).M (.slice (y).fa (y).ps.length (y).fc)) rfl rfl rfl ?_
      refine ld1 1 rfl (v := .int .i64 (y).S.last) rfl ?_
      refine cz (fun w1 => rname_any (y).S.last (by have := hla; omega) w1) ?_
      refine cRd (y := y) (M' := x1.1) (code := x1.2) 0 hok rfl (fun w1 hs => by rw [hx1]; exact rappend_any (y).M _ (y).rr _ (recP p) _ (by rw [name_len]; decide) (by omega) (Nat.le_trans (hbd).fl (by omega)) (fun g hg => Nat.le_trans ((hbd).fz g hg) hq) (Nat.le_trans (hbd).us hq) (Nat.le_trans (Nat.le_of_eq (hbd).qt) hq) (Nat.le_trans (hbd).st (by omega)) (hbd).lf w1 (RyOk.rfs (y := y) hok (hs.res (k := 0) (r := ryR (y)) rfl)) (ryR_lt (y := y) (hs.res (k := 0) (r := ryR (y)) rfl)) (by have := Rd.own hs 4 rfl hRb; rwa [hbv] at this)) (fun F f1 f2 f3 => ?_)
      obtain ⟨M9, fa9, fc9, ps9, rr9⟩ := F
      dsimp only at f1
      subst f1
      refine ⟨(.dead (.cons (.drop (.drop (.drop .nil))))), ?_⟩
      refine ⟨?_, ?_⟩
      · refine ⟨?_, ?_⟩
        · refine sP 1 (d := rdC x1.1 (.slice fa9 ps9.length fc9)) rfl (by show 0 + 6 ≤ 11; decide) rfl (e := ryC ((y).on ⟨x1.1, fa9, fc9, ps9, rr9⟩)) rfl ?_ (by kernel_rfl)
          exact ⟨⟨x1.1, fa9, fc9, ps9, rr9⟩, ⟨rfl, f2, fun j hj => (f3 j hj).elim (hrr j) .inr⟩, ⟨⟨rfl, rfl, rfl, rfl, rfl, rfl, trivial⟩, (.cons (.cons (.cons (.cons (.drop .nil))))), rfl⟩⟩
        · refine ⟨?_, ?_⟩
          · refine sP 1 (d := rdC x1.1 (.slice fa9 ps9.length fc9)) rfl (by show 0 + 6 ≤ 11; decide) rfl (e := ryC ((y).on ⟨x1.1, fa9, fc9, ps9, rr9⟩)) rfl ?_ (by kernel_rfl)
            exact ⟨⟨x1.1, fa9, fc9, ps9, rr9⟩, ⟨rfl, f2, fun j hj => (f3 j hj).elim (hrr j) .inr⟩, ⟨⟨rfl, rfl, rfl, rfl, rfl, rfl, trivial⟩, (.cons (.cons (.cons (.cons (.drop .nil))))), rfl⟩⟩
          · refine sP 1 (d := rdC x1.1 (.slice fa9 ps9.length fc9)) rfl (by show 0 + 6 ≤ 11; decide) rfl (e := ryC ((y).on ⟨x1.1, fa9, fc9, ps9, rr9⟩)) rfl ?_ (by kernel_rfl)
            exact ⟨⟨x1.1, fa9, fc9, ps9, rr9⟩, ⟨rfl, f2, fun j hj => (f3 j hj).elim (hrr j) .inr⟩, ⟨⟨rfl, rfl, rfl, rfl, rfl, rfl, trivial⟩, (.cons (.cons (.cons (.cons (.drop .nil))))), rfl⟩⟩
      · refine sP 1 (d := rdC x1.1 (.slice fa9 ps9.length fc9)) rfl (by show 0 + 6 ≤ 11; decide) rfl (e := ryC ((y).on ⟨x1.1, fa9, fc9, ps9, rr9⟩)) rfl ?_ (by kernel_rfl)
        exact ⟨⟨x1.1, fa9, fc9, ps9, rr9⟩, ⟨rfl, f2, fun j hj => (f3 j hj).elim (hrr j) .inr⟩, ⟨⟨rfl, rfl, rfl, rfl, rfl, rfl, trivial⟩, (.cons (.cons (.cons (.cons (.drop .nil))))), rfl⟩⟩
    rintro ⟨M9, fa9, fc9, ps9, rr9⟩ ⟨f1, hok1, hrr1⟩
    dsimp only at f1 hrr1 ⊢
    subst f1
    by_cases hc1 : x1.2 = 0
    case neg =>
      rw [if_neg hc1] at hgo
      refine ct (show (((x1.2 : Nat) : Int) != 0) = true by rw [bne_iff_ne]; omega) ?_
      refine ldP 1 (d := rdC ((y).on ⟨x1.1, fa9, fc9, ps9, rr9⟩).M (.slice ((y).on ⟨x1.1, fa9, fc9, ps9, rr9⟩).fa ((y).on ⟨x1.1, fa9, fc9, ps9, rr9⟩).ps.length ((y).on ⟨x1.1, fa9, fc9, ps9, rr9⟩).fc)) rfl rfl rfl ?_
      refine sP 3 (d := rdC ((y).on ⟨x1.1, fa9, fc9, ps9, rr9⟩).M (.slice ((y).on ⟨x1.1, fa9, fc9, ps9, rr9⟩).fa ((y).on ⟨x1.1, fa9, fc9, ps9, rr9⟩).ps.length ((y).on ⟨x1.1, fa9, fc9, ps9, rr9⟩).fc)) rfl (by show 0 + 6 ≤ 11; decide) rfl (e := rsC ((y).on ⟨x1.1, fa9, fc9, ps9, rr9⟩).M (.slice ((y).on ⟨x1.1, fa9, fc9, ps9, rr9⟩).fa ((y).on ⟨x1.1, fa9, fc9, ps9, rr9⟩).ps.length ((y).on ⟨x1.1, fa9, fc9, ps9, rr9⟩).fc) y0.S (.slice y0.va y0.S.pl.length y0.vc)) rfl ?_ (by kernel_rfl)
      refine s1e 3 (ryC (((y).on ⟨x1.1, fa9, fc9, ps9, rr9⟩).was y0 x1.2)) rfl (by show 10 < 11; decide) rfl ?_
      refine ldN 3 rfl rfl ?_
      refine sN 2 rfl (by rw [hz]; rfl) (ryC_one _) ?_ (by kernel_rfl)
      refine ldN 2 rfl rfl ?_
      exact ⟨fun w1 hs => rap_fail hok0 h0 hok1 hrr1 hs rfl (by have e := hres1 (by rw [hgo]; exact hc1); rw [hgo] at e; exact e) rfl⟩
    rw [if_pos hc1] at hgo
    rw [hc1]
    refine cf rfl ?_
    obtain ⟨y1, hy1⟩ : ∃ y1, y1 = (y).on ⟨x1.1, fa9, fc9, ps9, rr9⟩ := ⟨_, rfl⟩
    rw [← hy1] at hok1 ⊢
    have hy1S : y1.S = (y).S := by rw [hy1]; rfl
    have hy1l : y1.S.last = (y).S.last := by rw [hy1S]
    have hy1p : y1.S.pl.length ≤ 1000100 := by rw [hy1S]; exact hypn
    have hy1v : y1.vs.length = y1.S.pl.length := hok1.pls.len
    have rowsrc : ∀ w1, (ryR y1).p w1 → Src Tryz.prog 1 36 (.slice y1.va y1.S.pl.length y1.vc) y1.S.pl.length y1.vs w1 := fun w1 h => by
      have := h.1.2.rd.src undSS (fun u hu => by
        obtain ⟨a, ha, rfl⟩ := List.getElem_of_mem hu
        obtain ⟨_, _, e⟩ := hok1.pls.sh a _ (y1.S.pl[a]'(by omega)) (List.getElem?_eq_getElem ha) (List.getElem?_eq_getElem _)
        rw [e]; rfl)
      rwa [hy1v] at this
    have fin49 : ∀ (a3 : Option Addr) (c3 : Nat) (v : Value) (r3 r2 : Sx.Own), (∃ a c, v = .slice a p.length c) → (∀ j, rowB r3 j → w.heap.size ≤ j) → (∀ j, rowB r2 j → w.heap.size ≤ j) → PuOk w y0 ps q k (i + 1) (y1.add a3 c3 v p r3 r2) := fun a3 c3 v r3 r2 hv n3 n2 => by
      refine ⟨hlt, ⟨hok1.fs, hok1.sh, hok1.pls.snoc hv⟩, fun j hj => ?_, ?_, ?_, ?_, ?_⟩
      · rcases hj with hj | hj | hj
        · rw [hy1] at hj; exact hrr1 j hj
        · exact .inr (n3 j hj)
        · exact .inr (n2 j hj)
      · show ({ y1.S with pl := y1.S.pl ++ [p] } : Sr) = { y0.S with pl := y0.S.pl ++ ps.take (i + 1), last := y1.S.last }
        rw [htk, hy1S, ← List.append_assoc]
        rw [hypl]; rw [hS]
      · show _ = rputsD y0.S.size ⟨y1.M, y1.S.last⟩ (ps.drop (i + 1))
        rw [hgo, hy1]
        rfl
      · show Rb q (k + 5 * (i + 1)) y1.M
        rw [hy1]
        exact hb1.le (by omega)
      · show y1.S.last ≤ y0.S.last + (i + 1)
        rw [hy1l]
        exact by omega
    refine cut (α := Ry) (PuOk w y0 ps q k (i + 1)) (fun y2 => ⟨[(1, .slice (some ⟨pb, po, none⟩) ps.length pc), (2, ptr b2), (4, ptr b4), (12, ptr b12), (13, .int .i64 i)], [rs (ryR y2), cl b2 (ryC y2) TRS, cl b4 z TRS, cl b12 (ryC y0) TRS], []⟩) ?_ ?_
    · refine drs [dead, cl b2 (ryC y1) TRS] [13] (.t 1 (.t 2 (.t 5 (.t 6 (.t 7 (.t 8 (.b 0 4 (.b 3 4 (.n 4 (.n 9 (.n 10 (.n 11 (.n 12 (.n 13 .nil)))))) (.n 3 (.n 9 (.n 10 (.n 11 (.n 12 (.n 13 .nil))))))) (.n 0 (.n 3 (.n 9 (.n 10 (.n 11 (.n 12 (.n 13 .nil)))))))))))))) tab_ok mixed_ok (by kernel_rfl) (.dead (.cons (.drop (.drop .nil)))) ?_
      refine ld1 1 rfl (v := .slice y1.va y1.S.pl.length y1.vc) rfl ?_
      refine ⟨by omega, by omega, ?_⟩
      refine ldo (hI.row.at hpv rfl) (hI.row.lt0 hne) ?_
      refine ⟨?_, ?_⟩
      · refine .mk _ _ bsRow0 (fun bx => ?_)
        refine ⟨(.dead (.cons (.drop (.drop (.drop .nil))))), ?_⟩
        refine ⟨?_, ?_⟩
        · refine ap 4 (z := 1) (r := some (bx, 0, [])) (xs := []) (n := 0) (m := y1.S.pl.length) (news := y1.vs) tab_ok rfl infoS rfl rfl ⟨rfl, Nat.le_refl _, by unfold maxLen; omega, rfl⟩ (fun w1 hs => rowsrc w1 (hs.res (k := 0) rfl)) (by omega) (by unfold maxLen; omega) (fun r1 hr1 => ?_)
          rw [List.nil_append, Nat.zero_add] at hr1 ⊢
          refine ⟨(.dead (.cons (.drop (.drop .nil)))), ?_⟩
          refine .mk _ _ bsl0 (fun by0 => ?_)
          refine ⟨(.dead (.cons (.drop (.drop (.drop .nil))))), ?_⟩
          refine ap 5 (z := 1) (r := some (by0, 0, [])) (xs := []) (n := 0) (m := p.length) (news := Lib.byteCells p) tab_ok rfl info5 rfl rfl ⟨rfl, Nat.le_refl _, by unfold maxLen; omega, rfl⟩ (fun w1 hs => by have := (hel.below hs.below).src und22 (one8 p); rwa [Lib.byteCells_length] at this) (by omega) (by unfold maxLen; omega) (fun r2 hr2 => ?_)
          rw [List.nil_append, Nat.zero_add] at hr2 ⊢
          obtain ⟨a2, c2, hv2⟩ := sv_sl hr2
          rw [hv2]
          refine ⟨(.dead (.cons (.drop (.drop (.drop .nil))))), ?_⟩
          refine .mk _ _ (bsS1 _ _ _) (fun bz => ?_)
          refine ⟨(.dead (.cons (.drop (.drop (.drop (.drop .nil)))))), ?_⟩
          refine biImpW (next' := fun v L' => ∃ r', Rw 1 (y1.S.pl.length + 1) r' (y1.vs ++ [.slice a2 p.length c2]) ∧ v = sv r' (y1.S.pl.length + 1) ∧ L' = [rs (ryR y1), cl b2 (ryC y1) TRS, cl b4 z TRS, cl b12 (ryC y0) TRS, se r' (y1.vs ++ [.slice a2 p.length c2]) TB, se r2 (Lib.byteCells p) 5, cl bz #[.slice a2 p.length c2] TB]) (ap1 4 6 tab_ok rfl infoS rfl rfl hr1 rfl rfl (by omega) (by unfold maxLen; omega) (fun r' hr' => ⟨r', hr', rfl, rfl⟩)) ?_
          rintro w2 v L' hs2 ⟨r3, hr3, rfl, rfl⟩
          have n3 := own_new hs2 4 rfl
          have n2 := own_new hs2 5 rfl
          obtain ⟨a3, c3, hv3⟩ := sv_sl hr3
          rw [hv3]
          refine ⟨_, add_pay (k := 0) (i := 4) (j := 5) hs2 hok1 rfl rfl rfl (by decide) (by decide) (by decide) hr3 hv3 hr2 hv2.symm, ?_⟩
          iterate 2 refine ⟨(.dead (.cons (.drop (.drop (.drop (.drop .nil)))))), ?_⟩
          refine s1e 1 (ryC (y1.add a3 c3 (.slice a2 p.length c2) p r3 r2)) rfl (by show 7 < 11; decide) (by unfold ryC Ry.add; dsimp only; rw [List.length_append]; rfl) ?_
          exact ⟨y1.add a3 c3 (.slice a2 p.length c2) p r3 r2, fin49 a3 c3 _ r3 r2 ⟨a2, c2, rfl⟩ n3 n2, ⟨⟨rfl, rfl, rfl, rfl, rfl, trivial⟩, (.cons (.cons (.cons (.cons (.drop (.drop (.drop .nil))))))), rfl⟩⟩
        · refine .mk _ _ bsl0 (fun by0 => ?_)
          refine ⟨(.dead (.cons (.drop (.drop (.drop .nil))))), ?_⟩
          refine ap 4 (z := 1) (r := some (bx, 0, [])) (xs := []) (n := 0) (m := y1.S.pl.length) (news := y1.vs) tab_ok rfl infoS rfl rfl ⟨rfl, Nat.le_refl _, by unfold maxLen; omega, rfl⟩ (fun w1 hs => rowsrc w1 (hs.res (k := 0) rfl)) (by omega) (by unfold maxLen; omega) (fun r1 hr1 => ?_)
          rw [List.nil_append, Nat.zero_add] at hr1 ⊢
          refine ⟨(.dead (.cons (.drop (.drop (.drop .nil))))), ?_⟩
          refine ap 5 (z := 1) (r := some (by0, 0, [])) (xs := []) (n := 0) (m := p.length) (news := Lib.byteCells p) tab_ok rfl info5 rfl rfl ⟨rfl, Nat.le_refl _, by unfold maxLen; omega, rfl⟩ (fun w1 hs => by have := (hel.below hs.below).src und22 (one8 p); rwa [Lib.byteCells_length] at this) (by omega) (by unfold maxLen; omega) (fun r2 hr2 => ?_)
          rw [List.nil_append, Nat.zero_add] at hr2 ⊢
          obtain ⟨a2, c2, hv2⟩ := sv_sl hr2
          rw [hv2]
          refine ⟨(.dead (.cons (.drop (.drop (.drop .nil))))), ?_⟩
          refine .mk _ _ (bsS1 _ _ _) (fun bz => ?_)
          refine ⟨(.dead (.cons (.drop (.drop (.drop (.drop .nil)))))), ?_⟩
          refine biImpW (next' := fun v L' => ∃ r', Rw 1 (y1.S.pl.length + 1) r' (y1.vs ++ [.slice a2 p.length c2]) ∧ v = sv r' (y1.S.pl.length + 1) ∧ L' = [rs (ryR y1), cl b2 (ryC y1) TRS, cl b4 z TRS, cl b12 (ryC y0) TRS, se r' (y1.vs ++ [.slice a2 p.length c2]) TB, se r2 (Lib.byteCells p) 5, cl bz #[.slice a2 p.length c2] TB]) (ap1 4 6 tab_ok rfl infoS rfl rfl hr1 rfl rfl (by omega) (by unfold maxLen; omega) (fun r' hr' => ⟨r', hr', rfl, rfl⟩)) ?_
          rintro w2 v L' hs2 ⟨r3, hr3, rfl, rfl⟩
          have n3 := own_new hs2 4 rfl
          have n2 := own_new hs2 5 rfl
          obtain ⟨a3, c3, hv3⟩ := sv_sl hr3
          rw [hv3]
          refine ⟨_, add_pay (k := 0) (i := 4) (j := 5) hs2 hok1 rfl rfl rfl (by decide) (by decide) (by decide) hr3 hv3 hr2 hv2.symm, ?_⟩
          iterate 2 refine ⟨(.dead (.cons (.drop (.drop (.drop (.drop .nil)))))), ?_⟩
          refine s1e 1 (ryC (y1.add a3 c3 (.slice a2 p.length c2) p r3 r2)) rfl (by show 7 < 11; decide) (by unfold ryC Ry.add; dsimp only; rw [List.length_append]; rfl) ?_
          exact ⟨y1.add a3 c3 (.slice a2 p.length c2) p r3 r2, fin49 a3 c3 _ r3 r2 ⟨a2, c2, rfl⟩ n3 n2, ⟨⟨rfl, rfl, rfl, rfl, rfl, trivial⟩, (.cons (.cons (.cons (.cons (.drop (.drop (.drop .nil))))))), rfl⟩⟩
      · refine .mk _ _ bsl0 (fun by0 => ?_)
        refine ⟨(.dead (.cons (.drop (.drop (.drop .nil))))), ?_⟩
        refine .mk _ _ bsRow0 (fun bx => ?_)
        refine ⟨(.dead (.cons (.drop (.drop (.drop (.drop .nil)))))), ?_⟩
        refine ap 5 (z := 1) (r := some (bx, 0, [])) (xs := []) (n := 0) (m := y1.S.pl.length) (news := y1.vs) tab_ok rfl infoS rfl rfl ⟨rfl, Nat.le_refl _, by unfold maxLen; omega, rfl⟩ (fun w1 hs => rowsrc w1 (hs.res (k := 0) rfl)) (by omega) (by unfold maxLen; omega) (fun r1 hr1 => ?_)
        rw [List.nil_append, Nat.zero_add] at hr1 ⊢
        refine ⟨(.dead (.cons (.drop (.drop (.drop (.drop .nil)))))), ?_⟩
        refine ap 4 (z := 1) (r := some (by0, 0, [])) (xs := []) (n := 0) (m := p.length) (news := Lib.byteCells p) tab_ok rfl info5 rfl rfl ⟨rfl, Nat.le_refl _, by unfold maxLen; omega, rfl⟩ (fun w1 hs => by have := (hel.below hs.below).src und22 (one8 p); rwa [Lib.byteCells_length] at this) (by omega) (by unfold maxLen; omega) (fun r2 hr2 => ?_)
        rw [List.nil_append, Nat.zero_add] at hr2 ⊢
        obtain ⟨a2, c2, hv2⟩ := sv_sl hr2
        rw [hv2]
        refine ⟨(.dead (.cons (.drop (.drop (.drop (.drop .nil)))))), ?_⟩
        refine .mk _ _ (bsS1 _ _ _) (fun bz => ?_)
        refine ⟨(.dead (.cons (.drop (.drop (.drop (.drop (.drop .nil))))))), ?_⟩
        refine biImpW (next' := fun v L' => ∃ r', Rw 1 (y1.S.pl.length + 1) r' (y1.vs ++ [.slice a2 p.length c2]) ∧ v = sv r' (y1.S.pl.length + 1) ∧ L' = [rs (ryR y1), cl b2 (ryC y1) TRS, cl b4 z TRS, cl b12 (ryC y0) TRS, se r2 (Lib.byteCells p) 5, se r' (y1.vs ++ [.slice a2 p.length c2]) TB, cl bz #[.slice a2 p.length c2] TB]) (ap1 5 6 tab_ok rfl infoS rfl rfl hr1 rfl rfl (by omega) (by unfold maxLen; omega) (fun r' hr' => ⟨r', hr', rfl, rfl⟩)) ?_
        rintro w2 v L' hs2 ⟨r3, hr3, rfl, rfl⟩
        have n3 := own_new hs2 5 rfl
        have n2 := own_new hs2 4 rfl
        obtain ⟨a3, c3, hv3⟩ := sv_sl hr3
        rw [hv3]
        refine ⟨_, add_pay (k := 0) (i := 5) (j := 4) hs2 hok1 rfl rfl rfl (by decide) (by decide) (by decide) hr3 hv3 hr2 hv2.symm, ?_⟩
        iterate 2 refine ⟨(.dead (.cons (.drop (.drop (.drop (.drop (.drop .nil))))))), ?_⟩
        refine s1e 1 (ryC (y1.add a3 c3 (.slice a2 p.length c2) p r3 r2)) rfl (by show 7 < 11; decide) (by unfold ryC Ry.add; dsimp only; rw [List.length_append]; rfl) ?_
        exact ⟨y1.add a3 c3 (.slice a2 p.length c2) p r3 r2, fin49 a3 c3 _ r3 r2 ⟨a2, c2, rfl⟩ n3 n2, ⟨⟨rfl, rfl, rfl, rfl, rfl, trivial⟩, (.cons (.cons (.cons (.cons (.drop (.drop (.drop .nil))))))), rfl⟩⟩
    intro y2 hy2
    refine .as ((i + 1 : Nat) : Int) (by omega) (by simp only [mn]; omega) (by simp only [mx]; omega) ?_
    exact ⟨(i + 1, y2), hy2, by dsimp only; omega, ⟨⟨rfl, rfl, rfl, rfl, rfl, trivial⟩, Sub.refl _, rfl⟩⟩
  | true =>
    rw [hb, if_pos rfl] at hgoD
    refine ct rfl ?_
    refine ld1 1 rfl (v := .int .i64 y.S.last) rfl ?_
    refine .as ((y.S.last + 1 : Nat) : Int) (by omega) (by simp only [mn]; omega) (by simp only [mx]; omega) ?_
    refine .as ((y.S.last + 1 : Nat) : Int) rfl (by simp only [mn]; omega) (by simp only [mx]; omega) ?_
    refine co (n := 4) (z := 1) (xs := Lib.byteCells (le4 (y.S.last + 1))) (e := 5) (fun w1 hs => rbytes_any (y.S.last + 1) (by omega) w1) (fun rx hRx => ?_)
    refine coV (n := (recP (le4 (y.S.last + 1))).length) (z := 1) (xs := Lib.byteCells (recP (le4 (y.S.last + 1)))) (e := 5) (fun v => .tuple #[v, .bool true]) (fun w1 hs => rput_any (sv rx 4) (le4 (y.S.last + 1)) (show 4 ≤ 65536 by decide) w1 (Rd.own hs 5 rfl hRx)) (fun rm hRm => ?_)
    obtain ⟨ma, mc, hmv⟩ := sv_sl hRm
    rw [hmv]
    obtain ⟨s1, hs1⟩ : ∃ s, s = rsyncD y.M (nameS y.S.last) := ⟨_, rfl⟩
    have hbs1 := hbd.sync (nameS y.S.last)
    rw [← hs1] at hbs1
    obtain ⟨s2, hs2⟩ : ∃ s, s = rappendD s1.1 newB (recP (le4 (y.S.last + 1))) := ⟨_, rfl⟩
    have hbs2 := hbs1.append newB (recP (le4 (y.S.last + 1)))
    rw [← hs2] at hbs2
    obtain ⟨s3, hs3⟩ : ∃ s, s = rsyncD s2.1 newB := ⟨_, rfl⟩
    have hbs3 := hbs2.sync newB
    rw [← hs3] at hbs3
    obtain ⟨s4, hs4⟩ : ∃ s, s = rrenameD s3.1 newB manB := ⟨_, rfl⟩
    have hbs4 := hbs3.rename newB manB
    rw [← hs4] at hbs4
    have hn : rnextD y.M y.S.last = thenD (thenD (thenD s1 fun M => rappendD M newB (recP (le4 (y.S.last + 1)))) fun M => rsyncD M newB) fun M => rrenameD M newB manB := by rw [hs1]; rfl
    refine cut (α := Fl) (fun F => F.M = s1.1 ∧ RyOk (y.on F) ∧ ∀ j, F.rr j → y0.rr j ∨ w.heap.size ≤ j) (fun F => ⟨[(1, .slice (some ⟨pb, po, none⟩) ps.length pc), (2, ptr b2), (4, ptr b4), (12, ptr b12), (13, .int .i64 i), (14, .slice ba (recP p).length bc), (17, .slice ma (recP (le4 (y.S.last + 1))).length mc), (16, .int .i64 s1.2)], [rs (ryR (y.on F)), cl b2 (ryC (y.on F)) TRS, cl b4 z TRS, cl b12 (ryC y0) TRS, se rb (Lib.byteCells (recP p)) 5, dead, se rm (Lib.byteCells (recP (le4 (y.S.last + 1)))) 5], []⟩) ?_ ?_
    · refine drs [dead, cl b2 (ryC y) TRS] [7, 8, 9, 10, 11] (.t 0 (.t 1 (.t 2 (.t 3 (.t 4 (.n 5 (.t 6 (.b 7 8 (.b 8 9 (.n 9 (.n 10 (.n 11 .nil))) (.b 8 10 (.n 10 (.n 11 .nil)) (.n 8 (.n 11 .nil)))) (.n 7 (.n 9 (.n 10 (.n 11 .nil)))))))))))) tab_ok mixed_ok (by kernel_rfl) (.dead (.cons (.drop (.drop (.drop (.drop (.drop .nil))))))) ?_
      refine ldP 1 (d := rdC y.M (.slice y.fa y.ps.length y.fc)) rfl rfl rfl ?_
      refine ld1 1 rfl (v := .int .i64 y.S.last) rfl ?_
      refine cz (fun w1 => rname_any y.S.last (by omega) w1) ?_
      refine cRd (y := y) (M' := s1.1) (code := s1.2) 0 hok rfl (fun w1 hs => by rw [hs1]; exact rsync_any (y).M _ (y).rr (nameS y.S.last) (Nat.le_trans (hbd).fl (by omega)) (Nat.le_trans (hbd).st (by omega)) (hbd).lf w1 (RyOk.rfs (y := y) hok (hs.res (k := 0) (r := ryR y) rfl)) (ryR_lt (y := y) (hs.res (k := 0) (r := ryR y) rfl))) (fun F f1 f2 f3 => ?_)
      obtain ⟨M1, fa1, fc1, ps1, rr1⟩ := F
      dsimp only at f1
      subst f1
      refine ⟨(.dead (.cons (.drop (.drop (.drop (.drop (.drop .nil))))))), ?_⟩
      refine ⟨?_, ?_⟩
      · refine ⟨?_, ?_⟩
        · refine sP 1 (d := rdC s1.1 (.slice fa1 ps1.length fc1)) rfl (by show 0 + 6 ≤ 11; decide) rfl (e := ryC (y.on ⟨s1.1, fa1, fc1, ps1, rr1⟩)) rfl ?_ (by kernel_rfl)
          exact ⟨⟨s1.1, fa1, fc1, ps1, rr1⟩, ⟨rfl, f2, fun j hj => (f3 j hj).elim (hrr j) .inr⟩, ⟨⟨rfl, rfl, rfl, rfl, rfl, rfl, rfl, rfl, trivial⟩, (.cons (.cons (.cons (.cons (.cons (.dead (.cons .nil))))))), rfl⟩⟩
        · refine ⟨?_, ?_⟩
          · refine sP 1 (d := rdC s1.1 (.slice fa1 ps1.length fc1)) rfl (by show 0 + 6 ≤ 11; decide) rfl (e := ryC (y.on ⟨s1.1, fa1, fc1, ps1, rr1⟩)) rfl ?_ (by kernel_rfl)
            exact ⟨⟨s1.1, fa1, fc1, ps1, rr1⟩, ⟨rfl, f2, fun j hj => (f3 j hj).elim (hrr j) .inr⟩, ⟨⟨rfl, rfl, rfl, rfl, rfl, rfl, rfl, rfl, trivial⟩, (.cons (.cons (.cons (.cons (.cons (.dead (.cons .nil))))))), rfl⟩⟩
          · refine sP 1 (d := rdC s1.1 (.slice fa1 ps1.length fc1)) rfl (by show 0 + 6 ≤ 11; decide) rfl (e := ryC (y.on ⟨s1.1, fa1, fc1, ps1, rr1⟩)) rfl ?_ (by kernel_rfl)
            exact ⟨⟨s1.1, fa1, fc1, ps1, rr1⟩, ⟨rfl, f2, fun j hj => (f3 j hj).elim (hrr j) .inr⟩, ⟨⟨rfl, rfl, rfl, rfl, rfl, rfl, rfl, rfl, trivial⟩, (.cons (.cons (.cons (.cons (.cons (.dead (.cons .nil))))))), rfl⟩⟩
      · refine sP 1 (d := rdC s1.1 (.slice fa1 ps1.length fc1)) rfl (by show 0 + 6 ≤ 11; decide) rfl (e := ryC (y.on ⟨s1.1, fa1, fc1, ps1, rr1⟩)) rfl ?_ (by kernel_rfl)
        exact ⟨⟨s1.1, fa1, fc1, ps1, rr1⟩, ⟨rfl, f2, fun j hj => (f3 j hj).elim (hrr j) .inr⟩, ⟨⟨rfl, rfl, rfl, rfl, rfl, rfl, rfl, rfl, trivial⟩, (.cons (.cons (.cons (.cons (.cons (.dead (.cons .nil))))))), rfl⟩⟩
    rintro ⟨M1, fa1, fc1, ps1, rr1⟩ ⟨f1, hok1, hrr1⟩
    dsimp only at f1 hrr1 ⊢
    subst f1
    by_cases hc1 : s1.2 = 0
    case neg =>
      have hr1 : rnextD y.M y.S.last = s1 := by
        rw [hn]
        unfold thenD
        dsimp only
        simp only [if_true, hc1, if_false]
        first | done | rfl
      rw [show rputD y0.S.size ⟨y.M, y.S.last⟩ p = (⟨s1.1, y.S.last⟩, s1.2) by unfold rputD; rw [hgoD, hr1, if_neg hc1, if_neg hc1], if_neg hc1] at hgo
      iterate 5 refine cf (show (((s1.2 : Nat) : Int) == 0) = false by rw [beq_eq_false_iff_ne]; omega) ?_
      refine ct (show (((s1.2 : Nat) : Int) != 0) = true by rw [bne_iff_ne]; omega) ?_
      refine ldP 1 (d := rdC (y.on ⟨s1.1, fa1, fc1, ps1, rr1⟩).M (.slice (y.on ⟨s1.1, fa1, fc1, ps1, rr1⟩).fa (y.on ⟨s1.1, fa1, fc1, ps1, rr1⟩).ps.length (y.on ⟨s1.1, fa1, fc1, ps1, rr1⟩).fc)) rfl rfl rfl ?_
      refine sP 3 (d := rdC (y.on ⟨s1.1, fa1, fc1, ps1, rr1⟩).M (.slice (y.on ⟨s1.1, fa1, fc1, ps1, rr1⟩).fa (y.on ⟨s1.1, fa1, fc1, ps1, rr1⟩).ps.length (y.on ⟨s1.1, fa1, fc1, ps1, rr1⟩).fc)) rfl (by show 0 + 6 ≤ 11; decide) rfl (e := rsC (y.on ⟨s1.1, fa1, fc1, ps1, rr1⟩).M (.slice (y.on ⟨s1.1, fa1, fc1, ps1, rr1⟩).fa (y.on ⟨s1.1, fa1, fc1, ps1, rr1⟩).ps.length (y.on ⟨s1.1, fa1, fc1, ps1, rr1⟩).fc) y0.S (.slice y0.va y0.S.pl.length y0.vc)) rfl ?_ (by kernel_rfl)
      refine s1e 3 (ryC ((y.on ⟨s1.1, fa1, fc1, ps1, rr1⟩).was y0 s1.2)) rfl (by show 10 < 11; decide) rfl ?_
      refine ldN 3 rfl rfl ?_
      refine sN 2 rfl (by rw [hz]; rfl) (ryC_one _) ?_ (by kernel_rfl)
      refine ldN 2 rfl rfl ?_
      exact ⟨fun w1 hs => rap_fail hok0 h0 hok1 hrr1 hs rfl (by have e := hres1 (by rw [hgo]; exact hc1); rw [hgo] at e; exact e) rfl⟩
    rw [hc1]
    refine ct rfl ?_
    refine ldP 1 (d := rdC ((y.on ⟨s1.1, fa1, fc1, ps1, rr1⟩)).M (.slice ((y.on ⟨s1.1, fa1, fc1, ps1, rr1⟩)).fa ((y.on ⟨s1.1, fa1, fc1, ps1, rr1⟩)).ps.length ((y.on ⟨s1.1, fa1, fc1, ps1, rr1⟩)).fc)) rfl rfl rfl ?_
    refine cRd (y := (y.on ⟨s1.1, fa1, fc1, ps1, rr1⟩)) (M' := s2.1) (code := s2.2) 0 hok1 rfl (fun w1 hs => by rw [hs2]; exact rappend_any ((y.on ⟨s1.1, fa1, fc1, ps1, rr1⟩)).M _ ((y.on ⟨s1.1, fa1, fc1, ps1, rr1⟩)).rr newB (recP (le4 (y.S.last + 1))) _ (by decide) (by rw [rec_len]; show 8 + 4 ≤ 1000000; decide) (Nat.le_trans (hbs1).fl (by omega)) (fun g hg => Nat.le_trans ((hbs1).fz g hg) hq) (Nat.le_trans (hbs1).us hq) (Nat.le_trans (Nat.le_of_eq (hbs1).qt) hq) (Nat.le_trans (hbs1).st (by omega)) (hbs1).lf w1 (RyOk.rfs (y := (y.on ⟨s1.1, fa1, fc1, ps1, rr1⟩)) hok1 (hs.res (k := 0) (r := ryR (y.on ⟨s1.1, fa1, fc1, ps1, rr1⟩)) rfl)) (ryR_lt (y := (y.on ⟨s1.1, fa1, fc1, ps1, rr1⟩)) (hs.res (k := 0) (r := ryR (y.on ⟨s1.1, fa1, fc1, ps1, rr1⟩)) rfl)) (by have := Rd.own hs 6 rfl hRm; rwa [hmv] at this)) (fun F f1 f2 f3 => ?_)
    obtain ⟨M2, fa2, fc2, ps2, rr2⟩ := F
    dsimp only at f1
    subst f1
    have hok2 : RyOk (y.on ⟨s2.1, fa2, fc2, ps2, rr2⟩) := f2
    have hrr2 : ∀ j, rr2 j → y0.rr j ∨ w.heap.size ≤ j := fun j hj => (f3 j hj).elim (hrr1 j) .inr
    refine sP 1 (d := rdC s2.1 (.slice fa2 ps2.length fc2)) rfl (by show 0 + 6 ≤ 11; decide) rfl (e := ryC (y.on ⟨s2.1, fa2, fc2, ps2, rr2⟩)) rfl ?_ (by kernel_rfl)
    by_cases hc2 : s2.2 = 0
    case neg =>
      have hr2 : rnextD y.M y.S.last = s2 := by
        rw [hn]
        unfold thenD
        dsimp only
        simp only [hc1, ← hs2, if_true, hc2, if_false]
        first | done | rfl
      rw [show rputD y0.S.size ⟨y.M, y.S.last⟩ p = (⟨s2.1, y.S.last⟩, s2.2) by unfold rputD; rw [hgoD, hr2, if_neg hc2, if_neg hc2], if_neg hc2] at hgo
      iterate 4 refine cf (show (((s2.2 : Nat) : Int) == 0) = false by rw [beq_eq_false_iff_ne]; omega) ?_
      refine ct (show (((s2.2 : Nat) : Int) != 0) = true by rw [bne_iff_ne]; omega) ?_
      refine ldP 1 (d := rdC (y.on ⟨s2.1, fa2, fc2, ps2, rr2⟩).M (.slice (y.on ⟨s2.1, fa2, fc2, ps2, rr2⟩).fa (y.on ⟨s2.1, fa2, fc2, ps2, rr2⟩).ps.length (y.on ⟨s2.1, fa2, fc2, ps2, rr2⟩).fc)) rfl rfl rfl ?_
      refine sP 3 (d := rdC (y.on ⟨s2.1, fa2, fc2, ps2, rr2⟩).M (.slice (y.on ⟨s2.1, fa2, fc2, ps2, rr2⟩).fa (y.on ⟨s2.1, fa2, fc2, ps2, rr2⟩).ps.length (y.on ⟨s2.1, fa2, fc2, ps2, rr2⟩).fc)) rfl (by show 0 + 6 ≤ 11; decide) rfl (e := rsC (y.on ⟨s2.1, fa2, fc2, ps2, rr2⟩).M (.slice (y.on ⟨s2.1, fa2, fc2, ps2, rr2⟩).fa (y.on ⟨s2.1, fa2, fc2, ps2, rr2⟩).ps.length (y.on ⟨s2.1, fa2, fc2, ps2, rr2⟩).fc) y0.S (.slice y0.va y0.S.pl.length y0.vc)) rfl ?_ (by kernel_rfl)
      refine s1e 3 (ryC ((y.on ⟨s2.1, fa2, fc2, ps2, rr2⟩).was y0 s2.2)) rfl (by show 10 < 11; decide) rfl ?_
      refine ldN 3 rfl rfl ?_
      refine sN 2 rfl (by rw [hz]; rfl) (ryC_one _) ?_ (by kernel_rfl)
      refine ldN 2 rfl rfl ?_
      exact ⟨fun w1 hs => rap_fail hok0 h0 hok2 hrr2 hs rfl (by have e := hres1 (by rw [hgo]; exact hc2); rw [hgo] at e; exact e) rfl⟩
    rw [hc2]
    refine ct rfl ?_
    refine ldP 1 (d := rdC ((y.on ⟨s2.1, fa2, fc2, ps2, rr2⟩)).M (.slice ((y.on ⟨s2.1, fa2, fc2, ps2, rr2⟩)).fa ((y.on ⟨s2.1, fa2, fc2, ps2, rr2⟩)).ps.length ((y.on ⟨s2.1, fa2, fc2, ps2, rr2⟩)).fc)) rfl rfl rfl ?_
    refine cRd (y := (y.on ⟨s2.1, fa2, fc2, ps2, rr2⟩)) (M' := s3.1) (code := s3.2) 0 hok2 rfl (fun w1 hs => by rw [hs3]; exact rsync_any ((y.on ⟨s2.1, fa2, fc2, ps2, rr2⟩)).M _ ((y.on ⟨s2.1, fa2, fc2, ps2, rr2⟩)).rr newB (Nat.le_trans (hbs2).fl (by omega)) (Nat.le_trans (hbs2).st (by omega)) (hbs2).lf w1 (RyOk.rfs (y := (y.on ⟨s2.1, fa2, fc2, ps2, rr2⟩)) hok2 (hs.res (k := 0) (r := ryR (y.on ⟨s2.1, fa2, fc2, ps2, rr2⟩)) rfl)) (ryR_lt (y := (y.on ⟨s2.1, fa2, fc2, ps2, rr2⟩)) (hs.res (k := 0) (r := ryR (y.on ⟨s2.1, fa2, fc2, ps2, rr2⟩)) rfl))) (fun F f1 f2 f3 => ?_)
    obtain ⟨M3, fa3, fc3, ps3, rr3⟩ := F
    dsimp only at f1
    subst f1
    have hok3 : RyOk (y.on ⟨s3.1, fa3, fc3, ps3, rr3⟩) := f2
    have hrr3 : ∀ j, rr3 j → y0.rr j ∨ w.heap.size ≤ j := fun j hj => (f3 j hj).elim (hrr2 j) .inr
    refine sP 1 (d := rdC s3.1 (.slice fa3 ps3.length fc3)) rfl (by show 0 + 6 ≤ 11; decide) rfl (e := ryC (y.on ⟨s3.1, fa3, fc3, ps3, rr3⟩)) rfl ?_ (by kernel_rfl)
    by_cases hc3 : s3.2 = 0
    case neg =>
      have hr3 : rnextD y.M y.S.last = s3 := by
        rw [hn]
        unfold thenD
        dsimp only
        simp only [hc1, hc2, ← hs2, ← hs3, if_true, hc3, if_false]
        first | done | rfl
      rw [show rputD y0.S.size ⟨y.M, y.S.last⟩ p = (⟨s3.1, y.S.last⟩, s3.2) by unfold rputD; rw [hgoD, hr3, if_neg hc3, if_neg hc3], if_neg hc3] at hgo
      iterate 3 refine cf (show (((s3.2 : Nat) : Int) == 0) = false by rw [beq_eq_false_iff_ne]; omega) ?_
      refine ct (show (((s3.2 : Nat) : Int) != 0) = true by rw [bne_iff_ne]; omega) ?_
      refine ldP 1 (d := rdC (y.on ⟨s3.1, fa3, fc3, ps3, rr3⟩).M (.slice (y.on ⟨s3.1, fa3, fc3, ps3, rr3⟩).fa (y.on ⟨s3.1, fa3, fc3, ps3, rr3⟩).ps.length (y.on ⟨s3.1, fa3, fc3, ps3, rr3⟩).fc)) rfl rfl rfl ?_
      refine sP 3 (d := rdC (y.on ⟨s3.1, fa3, fc3, ps3, rr3⟩).M (.slice (y.on ⟨s3.1, fa3, fc3, ps3, rr3⟩).fa (y.on ⟨s3.1, fa3, fc3, ps3, rr3⟩).ps.length (y.on ⟨s3.1, fa3, fc3, ps3, rr3⟩).fc)) rfl (by show 0 + 6 ≤ 11; decide) rfl (e := rsC (y.on ⟨s3.1, fa3, fc3, ps3, rr3⟩).M (.slice (y.on ⟨s3.1, fa3, fc3, ps3, rr3⟩).fa (y.on ⟨s3.1, fa3, fc3, ps3, rr3⟩).ps.length (y.on ⟨s3.1, fa3, fc3, ps3, rr3⟩).fc) y0.S (.slice y0.va y0.S.pl.length y0.vc)) rfl ?_ (by kernel_rfl)
      refine s1e 3 (ryC ((y.on ⟨s3.1, fa3, fc3, ps3, rr3⟩).was y0 s3.2)) rfl (by show 10 < 11; decide) rfl ?_
      refine ldN 3 rfl rfl ?_
      refine sN 2 rfl (by rw [hz]; rfl) (ryC_one _) ?_ (by kernel_rfl)
      refine ldN 2 rfl rfl ?_
      exact ⟨fun w1 hs => rap_fail hok0 h0 hok3 hrr3 hs rfl (by have e := hres1 (by rw [hgo]; exact hc3); rw [hgo] at e; exact e) rfl⟩
    rw [hc3]
    refine ct rfl ?_
    refine ldP 1 (d := rdC ((y.on ⟨s3.1, fa3, fc3, ps3, rr3⟩)).M (.slice ((y.on ⟨s3.1, fa3, fc3, ps3, rr3⟩)).fa ((y.on ⟨s3.1, fa3, fc3, ps3, rr3⟩)).ps.length ((y.on ⟨s3.1, fa3, fc3, ps3, rr3⟩)).fc)) rfl rfl rfl ?_
    refine cRd (y := (y.on ⟨s3.1, fa3, fc3, ps3, rr3⟩)) (M' := s4.1) (code := s4.2) 0 hok3 rfl (fun w1 hs => by rw [hs4]; exact rrename_any ((y.on ⟨s3.1, fa3, fc3, ps3, rr3⟩)).M _ ((y.on ⟨s3.1, fa3, fc3, ps3, rr3⟩)).rr newB manB (by decide) (Nat.le_trans (hbs3).fl (by omega)) (Nat.le_trans (hbs3).st (by omega)) (hbs3).lf w1 (RyOk.rfs (y := (y.on ⟨s3.1, fa3, fc3, ps3, rr3⟩)) hok3 (hs.res (k := 0) (r := ryR (y.on ⟨s3.1, fa3, fc3, ps3, rr3⟩)) rfl)) (ryR_lt (y := (y.on ⟨s3.1, fa3, fc3, ps3, rr3⟩)) (hs.res (k := 0) (r := ryR (y.on ⟨s3.1, fa3, fc3, ps3, rr3⟩)) rfl))) (fun F f1 f2 f3 => ?_)
    obtain ⟨M4, fa4, fc4, ps4, rr4⟩ := F
    dsimp only at f1
    subst f1
    have hok4 : RyOk (y.on ⟨s4.1, fa4, fc4, ps4, rr4⟩) := f2
    have hrr4 : ∀ j, rr4 j → y0.rr j ∨ w.heap.size ≤ j := fun j hj => (f3 j hj).elim (hrr3 j) .inr
    refine sP 1 (d := rdC s4.1 (.slice fa4 ps4.length fc4)) rfl (by show 0 + 6 ≤ 11; decide) rfl (e := ryC (y.on ⟨s4.1, fa4, fc4, ps4, rr4⟩)) rfl ?_ (by kernel_rfl)
    by_cases hc4 : s4.2 = 0
    case neg =>
      have hr4 : rnextD y.M y.S.last = s4 := by
        rw [hn]
        unfold thenD
        dsimp only
        simp only [hc1, hc2, hc3, ← hs2, ← hs3, ← hs4, if_true, hc4, if_false]
        first | done | rfl
      rw [show rputD y0.S.size ⟨y.M, y.S.last⟩ p = (⟨s4.1, y.S.last⟩, s4.2) by unfold rputD; rw [hgoD, hr4, if_neg hc4, if_neg hc4], if_neg hc4] at hgo
      iterate 2 refine cf (show (((s4.2 : Nat) : Int) == 0) = false by rw [beq_eq_false_iff_ne]; omega) ?_
      refine ct (show (((s4.2 : Nat) : Int) != 0) = true by rw [bne_iff_ne]; omega) ?_
      refine ldP 1 (d := rdC (y.on ⟨s4.1, fa4, fc4, ps4, rr4⟩).M (.slice (y.on ⟨s4.1, fa4, fc4, ps4, rr4⟩).fa (y.on ⟨s4.1, fa4, fc4, ps4, rr4⟩).ps.length (y.on ⟨s4.1, fa4, fc4, ps4, rr4⟩).fc)) rfl rfl rfl ?_
      refine sP 3 (d := rdC (y.on ⟨s4.1, fa4, fc4, ps4, rr4⟩).M (.slice (y.on ⟨s4.1, fa4, fc4, ps4, rr4⟩).fa (y.on ⟨s4.1, fa4, fc4, ps4, rr4⟩).ps.length (y.on ⟨s4.1, fa4, fc4, ps4, rr4⟩).fc)) rfl (by show 0 + 6 ≤ 11; decide) rfl (e := rsC (y.on ⟨s4.1, fa4, fc4, ps4, rr4⟩).M (.slice (y.on ⟨s4.1, fa4, fc4, ps4, rr4⟩).fa (y.on ⟨s4.1, fa4, fc4, ps4, rr4⟩).ps.length (y.on ⟨s4.1, fa4, fc4, ps4, rr4⟩).fc) y0.S (.slice y0.va y0.S.pl.length y0.vc)) rfl ?_ (by kernel_rfl)
      refine s1e 3 (ryC ((y.on ⟨s4.1, fa4, fc4, ps4, rr4⟩).was y0 s4.2)) rfl (by show 10 < 11; decide) rfl ?_
      refine ldN 3 rfl rfl ?_
      refine sN 2 rfl (by rw [hz]; rfl) (ryC_one _) ?_ (by kernel_rfl)
      refine ldN 2 rfl rfl ?_
      exact ⟨fun w1 hs => rap_fail hok0 h0 hok4 hrr4 hs rfl (by have e := hres1 (by rw [hgo]; exact hc4); rw [hgo] at e; exact e) rfl⟩
    rw [hc4]
    refine ct rfl ?_
    refine ld1 1 rfl (v := .int .i64 y.S.last) rfl ?_
    refine .as ((y.S.last + 1 : Nat) : Int) (by omega) (by simp only [mn]; omega) (by simp only [mx]; omega) ?_
    refine s1e 1 (ryC ((y.on ⟨s4.1, fa4, fc4, ps4, rr4⟩).nx)) rfl (by show 9 < 11; decide) rfl ?_
    have hr5 : rnextD y.M y.S.last = s4 := by
      rw [hn]
      unfold thenD
      dsimp only
      simp only [hc1, hc2, hc3, ← hs2, ← hs3, ← hs4, if_true]
    have hok5 : RyOk ((y.on ⟨s4.1, fa4, fc4, ps4, rr4⟩).nx) := ⟨hok4.fs, hok4.sh, hok4.pls⟩
    have hla5 : ((y.on ⟨s4.1, fa4, fc4, ps4, rr4⟩).nx).S.last ≤ y0.S.last + i + 1 := by show y.S.last + 1 ≤ _; omega
    have e1 : rputD y0.S.size ⟨y.M, y.S.last⟩ p = (⟨(rappendD ((y.on ⟨s4.1, fa4, fc4, ps4, rr4⟩).nx).M (nameS ((y.on ⟨s4.1, fa4, fc4, ps4, rr4⟩).nx).S.last) (recP p)).1, ((y.on ⟨s4.1, fa4, fc4, ps4, rr4⟩).nx).S.last⟩, (rappendD ((y.on ⟨s4.1, fa4, fc4, ps4, rr4⟩).nx).M (nameS ((y.on ⟨s4.1, fa4, fc4, ps4, rr4⟩).nx).S.last) (recP p)).2) := by
      unfold rputD; rw [hgoD, hr5, if_pos hc4, if_pos rfl]; rfl
    obtain ⟨x1, hx1⟩ : ∃ x1, x1 = rappendD (((y.on ⟨s4.1, fa4, fc4, ps4, rr4⟩).nx)).M (nameS (((y.on ⟨s4.1, fa4, fc4, ps4, rr4⟩).nx)).S.last) (recP p) := ⟨_, rfl⟩
    rw [← hx1] at e1
    rw [e1] at hgo
    have hb1 : Rb q _ (rappendD (((y.on ⟨s4.1, fa4, fc4, ps4, rr4⟩).nx)).M (nameS (((y.on ⟨s4.1, fa4, fc4, ps4, rr4⟩).nx)).S.last) (recP p)).1 := (hbs4).append (nameS (((y.on ⟨s4.1, fa4, fc4, ps4, rr4⟩).nx)).S.last) (recP p)
    rw [← hx1] at hb1
    refine ct rfl ?_
    refine cut (α := Fl) (fun F => F.M = x1.1 ∧ RyOk ((((y.on ⟨s4.1, fa4, fc4, ps4, rr4⟩).nx)).on F) ∧ ∀ j, F.rr j → y0.rr j ∨ w.heap.size ≤ j) (fun F => ⟨[(1, .slice (some ⟨pb, po, none⟩) ps.length pc), (2, ptr b2), (4, ptr b4), (12, ptr b12), (13, .int .i64 i), (16, .int .i64 x1.2)], [rs (ryR ((((y.on ⟨s4.1, fa4, fc4, ps4, rr4⟩).nx)).on F)), cl b2 (ryC ((((y.on ⟨s4.1, fa4, fc4, ps4, rr4⟩).nx)).on F)) TRS, cl b4 z TRS, cl b12 (ryC y0) TRS], []⟩) ?_ ?_
    · refine drs [dead, cl b2 (ryC (((y.on ⟨s4.1, fa4, fc4, ps4, rr4⟩).nx))) TRS] [8, 9, 10, 11, 12] (.t 0 (.t 1 (.t 2 (.t 3 (.t 4 (.t 5 (.n 6 (.t 7 (.b 8 9 (.b 9 10 (.n 10 (.n 11 (.n 12 .nil))) (.b 9 11 (.n 11 (.n 12 .nil)) (.n 9 (.n 12 .nil)))) (.n 8 (.n 10 (.n 11 (.n 12 .nil))))))))))))) tab_ok mixed_ok (by kernel_rfl) (.dead (.cons (.drop (.drop (.drop (.drop (.drop .nil))))))) ?_
      refine ldP 1 (d := rdC (((y.on ⟨s4.1, fa4, fc4, ps4, rr4⟩).nx)).M (.slice (((y.on ⟨s4.1, fa4, fc4, ps4, rr4⟩).nx)).fa (((y.on ⟨s4.1, fa4, fc4, ps4, rr4⟩).nx)).ps.length (((y.on ⟨s4.1, fa4, fc4, ps4, rr4⟩).nx)).fc)) rfl rfl rfl ?_
      refine ld1 1 rfl (v := .int .i64 (((y.on ⟨s4.1, fa4, fc4, ps4, rr4⟩).nx)).S.last) rfl ?_
      refine cz (fun w1 => rname_any (((y.on ⟨s4.1, fa4, fc4, ps4, rr4⟩).nx)).S.last (by have := hla5; omega) w1) ?_
      refine cRd (y := ((y.on ⟨s4.1, fa4, fc4, ps4, rr4⟩).nx)) (M' := x1.1) (code := x1.2) 0 hok5 rfl (fun w1 hs => by rw [hx1]; exact rappend_any (((y.on ⟨s4.1, fa4, fc4, ps4, rr4⟩).nx)).M _ (((y.on ⟨s4.1, fa4, fc4, ps4, rr4⟩).nx)).rr _ (recP p) _ (by rw [name_len]; decide) (by omega) (Nat.le_trans (hbs4).fl (by omega)) (fun g hg => Nat.le_trans ((hbs4).fz g hg) hq) (Nat.le_trans (hbs4).us hq) (Nat.le_trans (Nat.le_of_eq (hbs4).qt) hq) (Nat.le_trans (hbs4).st (by omega)) (hbs4).lf w1 (RyOk.rfs (y := ((y.on ⟨s4.1, fa4, fc4, ps4, rr4⟩).nx)) hok5 (hs.res (k := 0) (r := ryR (((y.on ⟨s4.1, fa4, fc4, ps4, rr4⟩).nx))) rfl)) (ryR_lt (y := ((y.on ⟨s4.1, fa4, fc4, ps4, rr4⟩).nx)) (hs.res (k := 0) (r := ryR (((y.on ⟨s4.1, fa4, fc4, ps4, rr4⟩).nx))) rfl)) (by have := Rd.own hs 4 rfl hRb; rwa [hbv] at this)) (fun F f1 f2 f3 => ?_)
      obtain ⟨M9, fa9, fc9, ps9, rr9⟩ := F
      dsimp only at f1
      subst f1
      refine ⟨(.dead (.cons (.drop (.drop (.drop (.drop (.drop .nil))))))), ?_⟩
      refine ⟨?_, ?_⟩
      · refine ⟨?_, ?_⟩
        · refine sP 1 (d := rdC x1.1 (.slice fa9 ps9.length fc9)) rfl (by show 0 + 6 ≤ 11; decide) rfl (e := ryC ((((y.on ⟨s4.1, fa4, fc4, ps4, rr4⟩).nx)).on ⟨x1.1, fa9, fc9, ps9, rr9⟩)) rfl ?_ (by kernel_rfl)
          exact ⟨⟨x1.1, fa9, fc9, ps9, rr9⟩, ⟨rfl, f2, fun j hj => (f3 j hj).elim (hrr4 j) .inr⟩, ⟨⟨rfl, rfl, rfl, rfl, rfl, rfl, trivial⟩, (.cons (.cons (.cons (.cons (.drop (.drop (.drop .nil))))))), rfl⟩⟩
        · refine ⟨?_, ?_⟩
          · refine sP 1 (d := rdC x1.1 (.slice fa9 ps9.length fc9)) rfl (by show 0 + 6 ≤ 11; decide) rfl (e := ryC ((((y.on ⟨s4.1, fa4, fc4, ps4, rr4⟩).nx)).on ⟨x1.1, fa9, fc9, ps9, rr9⟩)) rfl ?_ (by kernel_rfl)
            exact ⟨⟨x1.1, fa9, fc9, ps9, rr9⟩, ⟨rfl, f2, fun j hj => (f3 j hj).elim (hrr4 j) .inr⟩, ⟨⟨rfl, rfl, rfl, rfl, rfl, rfl, trivial⟩, (.cons (.cons (.cons (.cons (.drop (.drop (.drop .nil))))))), rfl⟩⟩
          · refine sP 1 (d := rdC x1.1 (.slice fa9 ps9.length fc9)) rfl (by show 0 + 6 ≤ 11; decide) rfl (e := ryC ((((y.on ⟨s4.1, fa4, fc4, ps4, rr4⟩).nx)).on ⟨x1.1, fa9, fc9, ps9, rr9⟩)) rfl ?_ (by kernel_rfl)
            exact ⟨⟨x1.1, fa9, fc9, ps9, rr9⟩, ⟨rfl, f2, fun j hj => (f3 j hj).elim (hrr4 j) .inr⟩, ⟨⟨rfl, rfl, rfl, rfl, rfl, rfl, trivial⟩, (.cons (.cons (.cons (.cons (.drop (.drop (.drop .nil))))))), rfl⟩⟩
      · refine sP 1 (d := rdC x1.1 (.slice fa9 ps9.length fc9)) rfl (by show 0 + 6 ≤ 11; decide) rfl (e := ryC ((((y.on ⟨s4.1, fa4, fc4, ps4, rr4⟩).nx)).on ⟨x1.1, fa9, fc9, ps9, rr9⟩)) rfl ?_ (by kernel_rfl)
        exact ⟨⟨x1.1, fa9, fc9, ps9, rr9⟩, ⟨rfl, f2, fun j hj => (f3 j hj).elim (hrr4 j) .inr⟩, ⟨⟨rfl, rfl, rfl, rfl, rfl, rfl, trivial⟩, (.cons (.cons (.cons (.cons (.drop (.drop (.drop .nil))))))), rfl⟩⟩
    rintro ⟨M9, fa9, fc9, ps9, rr9⟩ ⟨f1, hok1, hrr1⟩
    dsimp only at f1 hrr1 ⊢
    subst f1
    by_cases hc1 : x1.2 = 0
    case neg =>
      rw [if_neg hc1] at hgo
      refine ct (show (((x1.2 : Nat) : Int) != 0) = true by rw [bne_iff_ne]; omega) ?_
      refine ldP 1 (d := rdC ((((y.on ⟨s4.1, fa4, fc4, ps4, rr4⟩).nx)).on ⟨x1.1, fa9, fc9, ps9, rr9⟩).M (.slice ((((y.on ⟨s4.1, fa4, fc4, ps4, rr4⟩).nx)).on ⟨x1.1, fa9, fc9, ps9, rr9⟩).fa ((((y.on ⟨s4.1, fa4, fc4, ps4, rr4⟩).nx)).on ⟨x1.1, fa9, fc9, ps9, rr9⟩).ps.length ((((y.on ⟨s4.1, fa4, fc4, ps4, rr4⟩).nx)).on ⟨x1.1, fa9, fc9, ps9, rr9⟩).fc)) rfl rfl rfl ?_
      refine sP 3 (d := rdC ((((y.on ⟨s4.1, fa4, fc4, ps4, rr4⟩).nx)).on ⟨x1.1, fa9, fc9, ps9, rr9⟩).M (.slice ((((y.on ⟨s4.1, fa4, fc4, ps4, rr4⟩).nx)).on ⟨x1.1, fa9, fc9, ps9, rr9⟩).fa ((((y.on ⟨s4.1, fa4, fc4, ps4, rr4⟩).nx)).on ⟨x1.1, fa9, fc9, ps9, rr9⟩).ps.length ((((y.on ⟨s4.1, fa4, fc4, ps4, rr4⟩).nx)).on ⟨x1.1, fa9, fc9, ps9, rr9⟩).fc)) rfl (by show 0 + 6 ≤ 11; decide) rfl (e := rsC ((((y.on ⟨s4.1, fa4, fc4, ps4, rr4⟩).nx)).on ⟨x1.1, fa9, fc9, ps9, rr9⟩).M (.slice ((((y.on ⟨s4.1, fa4, fc4, ps4, rr4⟩).nx)).on ⟨x1.1, fa9, fc9, ps9, rr9⟩).fa ((((y.on ⟨s4.1, fa4, fc4, ps4, rr4⟩).nx)).on ⟨x1.1, fa9, fc9, ps9, rr9⟩).ps.length ((((y.on ⟨s4.1, fa4, fc4, ps4, rr4⟩).nx)).on ⟨x1.1, fa9, fc9, ps9, rr9⟩).fc) y0.S (.slice y0.va y0.S.pl.length y0.vc)) rfl ?_ (by kernel_rfl)
      refine s1e 3 (ryC (((((y.on ⟨s4.1, fa4, fc4, ps4, rr4⟩).nx)).on ⟨x1.1, fa9, fc9, ps9, rr9⟩).was y0 x1.2)) rfl (by show 10 < 11; decide) rfl ?_
      refine ldN 3 rfl rfl ?_
      refine sN 2 rfl (by rw [hz]; rfl) (ryC_one _) ?_ (by kernel_rfl)
      refine ldN 2 rfl rfl ?_
      exact ⟨fun w1 hs => rap_fail hok0 h0 hok1 hrr1 hs rfl (by have e := hres1 (by rw [hgo]; exact hc1); rw [hgo] at e; exact e) rfl⟩
    rw [if_pos hc1] at hgo
    rw [hc1]
    refine cf rfl ?_
    obtain ⟨y1, hy1⟩ : ∃ y1, y1 = (((y.on ⟨s4.1, fa4, fc4, ps4, rr4⟩).nx)).on ⟨x1.1, fa9, fc9, ps9, rr9⟩ := ⟨_, rfl⟩
    rw [← hy1] at hok1 ⊢
    have hy1S : y1.S = (((y.on ⟨s4.1, fa4, fc4, ps4, rr4⟩).nx)).S := by rw [hy1]; rfl
    have hy1l : y1.S.last = (((y.on ⟨s4.1, fa4, fc4, ps4, rr4⟩).nx)).S.last := by rw [hy1S]
    have hy1p : y1.S.pl.length ≤ 1000100 := by rw [hy1S]; exact hypn
    have hy1v : y1.vs.length = y1.S.pl.length := hok1.pls.len
    have rowsrc : ∀ w1, (ryR y1).p w1 → Src Tryz.prog 1 36 (.slice y1.va y1.S.pl.length y1.vc) y1.S.pl.length y1.vs w1 := fun w1 h => by
      have := h.1.2.rd.src undSS (fun u hu => by
        obtain ⟨a, ha, rfl⟩ := List.getElem_of_mem hu
        obtain ⟨_, _, e⟩ := hok1.pls.sh a _ (y1.S.pl[a]'(by omega)) (List.getElem?_eq_getElem ha) (List.getElem?_eq_getElem _)
        rw [e]; rfl)
      rwa [hy1v] at this
    have fin49 : ∀ (a3 : Option Addr) (c3 : Nat) (v : Value) (r3 r2 : Sx.Own), (∃ a c, v = .slice a p.length c) → (∀ j, rowB r3 j → w.heap.size ≤ j) → (∀ j, rowB r2 j → w.heap.size ≤ j) → PuOk w y0 ps q k (i + 1) (y1.add a3 c3 v p r3 r2) := fun a3 c3 v r3 r2 hv n3 n2 => by
      refine ⟨hlt, ⟨hok1.fs, hok1.sh, hok1.pls.snoc hv⟩, fun j hj => ?_, ?_, ?_, ?_, ?_⟩
      · rcases hj with hj | hj | hj
        · rw [hy1] at hj; exact hrr1 j hj
        · exact .inr (n3 j hj)
        · exact .inr (n2 j hj)
      · show ({ y1.S with pl := y1.S.pl ++ [p] } : Sr) = { y0.S with pl := y0.S.pl ++ ps.take (i + 1), last := y1.S.last }
        rw [htk, hy1S, ← List.append_assoc]
        dsimp only [Ry.nx, Ry.on]; rw [hypl]; rw [hS]
      · show _ = rputsD y0.S.size ⟨y1.M, y1.S.last⟩ (ps.drop (i + 1))
        rw [hgo, hy1]
        rfl
      · show Rb q (k + 5 * (i + 1)) y1.M
        rw [hy1]
        exact hb1.le (by omega)
      · show y1.S.last ≤ y0.S.last + (i + 1)
        rw [hy1l]
        exact by have := hla5; omega
    refine cut (α := Ry) (PuOk w y0 ps q k (i + 1)) (fun y2 => ⟨[(1, .slice (some ⟨pb, po, none⟩) ps.length pc), (2, ptr b2), (4, ptr b4), (12, ptr b12), (13, .int .i64 i)], [rs (ryR y2), cl b2 (ryC y2) TRS, cl b4 z TRS, cl b12 (ryC y0) TRS], []⟩) ?_ ?_
    · refine drs [dead, cl b2 (ryC y1) TRS] [13] (.t 1 (.t 2 (.t 5 (.t 6 (.t 7 (.t 8 (.b 0 4 (.b 3 4 (.n 4 (.n 9 (.n 10 (.n 11 (.n 12 (.n 13 .nil)))))) (.n 3 (.n 9 (.n 10 (.n 11 (.n 12 (.n 13 .nil))))))) (.n 0 (.n 3 (.n 9 (.n 10 (.n 11 (.n 12 (.n 13 .nil)))))))))))))) tab_ok mixed_ok (by kernel_rfl) (.dead (.cons (.drop (.drop .nil)))) ?_
      refine ld1 1 rfl (v := .slice y1.va y1.S.pl.length y1.vc) rfl ?_
      refine ⟨by omega, by omega, ?_⟩
      refine ldo (hI.row.at hpv rfl) (hI.row.lt0 hne) ?_
      refine ⟨?_, ?_⟩
      · refine .mk _ _ bsRow0 (fun bx => ?_)
        refine ⟨(.dead (.cons (.drop (.drop (.drop .nil))))), ?_⟩
        refine ⟨?_, ?_⟩
        · refine ap 4 (z := 1) (r := some (bx, 0, [])) (xs := []) (n := 0) (m := y1.S.pl.length) (news := y1.vs) tab_ok rfl infoS rfl rfl ⟨rfl, Nat.le_refl _, by unfold maxLen; omega, rfl⟩ (fun w1 hs => rowsrc w1 (hs.res (k := 0) rfl)) (by omega) (by unfold maxLen; omega) (fun r1 hr1 => ?_)
          rw [List.nil_append, Nat.zero_add] at hr1 ⊢
          refine ⟨(.dead (.cons (.drop (.drop .nil)))), ?_⟩
          refine .mk _ _ bsl0 (fun by0 => ?_)
          refine ⟨(.dead (.cons (.drop (.drop (.drop .nil))))), ?_⟩
          refine ap 5 (z := 1) (r := some (by0, 0, [])) (xs := []) (n := 0) (m := p.length) (news := Lib.byteCells p) tab_ok rfl info5 rfl rfl ⟨rfl, Nat.le_refl _, by unfold maxLen; omega, rfl⟩ (fun w1 hs => by have := (hel.below hs.below).src und22 (one8 p); rwa [Lib.byteCells_length] at this) (by omega) (by unfold maxLen; omega) (fun r2 hr2 => ?_)
          rw [List.nil_append, Nat.zero_add] at hr2 ⊢
          obtain ⟨a2, c2, hv2⟩ := sv_sl hr2
          rw [hv2]
          refine ⟨(.dead (.cons (.drop (.drop (.drop .nil))))), ?_⟩
          refine .mk _ _ (bsS1 _ _ _) (fun bz => ?_)
          refine ⟨(.dead (.cons (.drop (.drop (.drop (.drop .nil)))))), ?_⟩
          refine biImpW (next' := fun v L' => ∃ r', Rw 1 (y1.S.pl.length + 1) r' (y1.vs ++ [.slice a2 p.length c2]) ∧ v = sv r' (y1.S.pl.length + 1) ∧ L' = [rs (ryR y1), cl b2 (ryC y1) TRS, cl b4 z TRS, cl b12 (ryC y0) TRS, se r' (y1.vs ++ [.slice a2 p.length c2]) TB, se r2 (Lib.byteCells p) 5, cl bz #[.slice a2 p.length c2] TB]) (ap1 4 6 tab_ok rfl infoS rfl rfl hr1 rfl rfl (by omega) (by unfold maxLen; omega) (fun r' hr' => ⟨r', hr', rfl, rfl⟩)) ?_
          rintro w2 v L' hs2 ⟨r3, hr3, rfl, rfl⟩
          have n3 := own_new hs2 4 rfl
          have n2 := own_new hs2 5 rfl
          obtain ⟨a3, c3, hv3⟩ := sv_sl hr3
          rw [hv3]
          refine ⟨_, add_pay (k := 0) (i := 4) (j := 5) hs2 hok1 rfl rfl rfl (by decide) (by decide) (by decide) hr3 hv3 hr2 hv2.symm, ?_⟩
          iterate 2 refine ⟨(.dead (.cons (.drop (.drop (.drop (.drop .nil)))))), ?_⟩
          refine s1e 1 (ryC (y1.add a3 c3 (.slice a2 p.length c2) p r3 r2)) rfl (by show 7 < 11; decide) (by unfold ryC Ry.add; dsimp only; rw [List.length_append]; rfl) ?_
          exact ⟨y1.add a3 c3 (.slice a2 p.length c2) p r3 r2, fin49 a3 c3 _ r3 r2 ⟨a2, c2, rfl⟩ n3 n2, ⟨⟨rfl, rfl, rfl, rfl, rfl, trivial⟩, (.cons (.cons (.cons (.cons (.drop (.drop (.drop .nil))))))), rfl⟩⟩
        · refine .mk _ _ bsl0 (fun by0 => ?_)
          refine ⟨(.dead (.cons (.drop (.drop (.drop .nil))))), ?_⟩
          refine ap 4 (z := 1) (r := some (bx, 0, [])) (xs := []) (n := 0) (m := y1.S.pl.length) (news := y1.vs) tab_ok rfl infoS rfl rfl ⟨rfl, Nat.le_refl _, by unfold maxLen; omega, rfl⟩ (fun w1 hs => rowsrc w1 (hs.res (k := 0) rfl)) (by omega) (by unfold maxLen; omega) (fun r1 hr1 => ?_)
          rw [List.nil_append, Nat.zero_add] at hr1 ⊢
          refine ⟨(.dead (.cons (.drop (.drop (.drop .nil))))), ?_⟩
          refine ap 5 (z := 1) (r := some (by0, 0, [])) (xs := []) (n := 0) (m := p.length) (news := Lib.byteCells p) tab_ok rfl info5 rfl rfl ⟨rfl, Nat.le_refl _, by unfold maxLen; omega, rfl⟩ (fun w1 hs => by have := (hel.below hs.below).src und22 (one8 p); rwa [Lib.byteCells_length] at this) (by omega) (by unfold maxLen; omega) (fun r2 hr2 => ?_)
          rw [List.nil_append, Nat.zero_add] at hr2 ⊢
          obtain ⟨a2, c2, hv2⟩ := sv_sl hr2
          rw [hv2]
          refine ⟨(.dead (.cons (.drop (.drop (.drop .nil))))), ?_⟩
          refine .mk _ _ (bsS1 _ _ _) (fun bz => ?_)
          refine ⟨(.dead (.cons (.drop (.drop (.drop (.drop .nil)))))), ?_⟩
          refine biImpW (next' := fun v L' => ∃ r', Rw 1 (y1.S.pl.length + 1) r' (y1.vs ++ [.slice a2 p.length c2]) ∧ v = sv r' (y1.S.pl.length + 1) ∧ L' = [rs (ryR y1), cl b2 (ryC y1) TRS, cl b4 z TRS, cl b12 (ryC y0) TRS, se r' (y1.vs ++ [.slice a2 p.length c2]) TB, se r2 (Lib.byteCells p) 5, cl bz #[.slice a2 p.length c2] TB]) (ap1 4 6 tab_ok rfl infoS rfl rfl hr1 rfl rfl (by omega) (by unfold maxLen; omega) (fun r' hr' => ⟨r', hr', rfl, rfl⟩)) ?_
          rintro w2 v L' hs2 ⟨r3, hr3, rfl, rfl⟩
          have n3 := own_new hs2 4 rfl
          have n2 := own_new hs2 5 rfl
          obtain ⟨a3, c3, hv3⟩ := sv_sl hr3
          rw [hv3]
          refine ⟨_, add_pay (k := 0) (i := 4) (j := 5) hs2 hok1 rfl rfl rfl (by decide) (by decide) (by decide) hr3 hv3 hr2 hv2.symm, ?_⟩
          iterate 2 refine ⟨(.dead (.cons (.drop (.drop (.drop (.drop .nil)))))), ?_⟩
          refine s1e 1 (ryC (y1.add a3 c3 (.slice a2 p.length c2) p r3 r2)) rfl (by show 7 < 11; decide) (by unfold ryC Ry.add; dsimp only; rw [List.length_append]; rfl) ?_
          exact ⟨y1.add a3 c3 (.slice a2 p.length c2) p r3 r2, fin49 a3 c3 _ r3 r2 ⟨a2, c2, rfl⟩ n3 n2, ⟨⟨rfl, rfl, rfl, rfl, rfl, trivial⟩, (.cons (.cons (.cons (.cons (.drop (.drop (.drop .nil))))))), rfl⟩⟩
      · refine .mk _ _ bsl0 (fun by0 => ?_)
        refine ⟨(.dead (.cons (.drop (.drop (.drop .nil))))), ?_⟩
        refine .mk _ _ bsRow0 (fun bx => ?_)
        refine ⟨(.dead (.cons (.drop (.drop (.drop (.drop .nil)))))), ?_⟩
        refine ap 5 (z := 1) (r := some (bx, 0, [])) (xs := []) (n := 0) (m := y1.S.pl.length) (news := y1.vs) tab_ok rfl infoS rfl rfl ⟨rfl, Nat.le_refl _, by unfold maxLen; omega, rfl⟩ (fun w1 hs => rowsrc w1 (hs.res (k := 0) rfl)) (by omega) (by unfold maxLen; omega) (fun r1 hr1 => ?_)
        rw [List.nil_append, Nat.zero_add] at hr1 ⊢
        refine ⟨(.dead (.cons (.drop (.drop (.drop (.drop .nil)))))), ?_⟩
        refine ap 4 (z := 1) (r := some (by0, 0, [])) (xs := []) (n := 0) (m := p.length) (news := Lib.byteCells p) tab_ok rfl info5 rfl rfl ⟨rfl, Nat.le_refl _, by unfold maxLen; omega, rfl⟩ (fun w1 hs => by have := (hel.below hs.below).src und22 (one8 p); rwa [Lib.byteCells_length] at this) (by omega) (by unfold maxLen; omega) (fun r2 hr2 => ?_)
        rw [List.nil_append, Nat.zero_add] at hr2 ⊢
        obtain ⟨a2, c2, hv2⟩ := sv_sl hr2
        rw [hv2]
        refine ⟨(.dead (.cons (.drop (.drop (.drop (.drop .nil)))))), ?_⟩
        refine .mk _ _ (bsS1 _ _ _) (fun bz => ?_)
        refine ⟨(.dead (.cons (.drop (.drop (.drop (.drop (.drop .nil))))))), ?_⟩
        refine biImpW (next' := fun v L' => ∃ r', Rw 1 (y1.S.pl.length + 1) r' (y1.vs ++ [.slice a2 p.length c2]) ∧ v = sv r' (y1.S.pl.length + 1) ∧ L' = [rs (ryR y1), cl b2 (ryC y1) TRS, cl b4 z TRS, cl b12 (ryC y0) TRS, se r2 (Lib.byteCells p) 5, se r' (y1.vs ++ [.slice a2 p.length c2]) TB, cl bz #[.slice a2 p.length c2] TB]) (ap1 5 6 tab_ok rfl infoS rfl rfl hr1 rfl rfl (by omega) (by unfold maxLen; omega) (fun r' hr' => ⟨r', hr', rfl, rfl⟩)) ?_
        rintro w2 v L' hs2 ⟨r3, hr3, rfl, rfl⟩
        have n3 := own_new hs2 5 rfl
        have n2 := own_new hs2 4 rfl
        obtain ⟨a3, c3, hv3⟩ := sv_sl hr3
        rw [hv3]
        refine ⟨_, add_pay (k := 0) (i := 5) (j := 4) hs2 hok1 rfl rfl rfl (by decide) (by decide) (by decide) hr3 hv3 hr2 hv2.symm, ?_⟩
        iterate 2 refine ⟨(.dead (.cons (.drop (.drop (.drop (.drop (.drop .nil))))))), ?_⟩
        refine s1e 1 (ryC (y1.add a3 c3 (.slice a2 p.length c2) p r3 r2)) rfl (by show 7 < 11; decide) (by unfold ryC Ry.add; dsimp only; rw [List.length_append]; rfl) ?_
        exact ⟨y1.add a3 c3 (.slice a2 p.length c2) p r3 r2, fin49 a3 c3 _ r3 r2 ⟨a2, c2, rfl⟩ n3 n2, ⟨⟨rfl, rfl, rfl, rfl, rfl, trivial⟩, (.cons (.cons (.cons (.cons (.drop (.drop (.drop .nil))))))), rfl⟩⟩
    intro y2 hy2
    refine .as ((i + 1 : Nat) : Int) (by omega) (by simp only [mn]; omega) (by simp only [mx]; omega) ?_
    exact ⟨(i + 1, y2), hy2, by dsimp only; omega, ⟨⟨rfl, rfl, rfl, rfl, rfl, trivial⟩, Sub.refl _, rfl⟩⟩
end Go.Proofs.YteamnhpplclmfaaGreatDoor
end
section
namespace Go.Proofs.YteamnhpplclmfaaGreatDoor
open Go.RowKit Go.Sx
set_option linter.unusedVariables false
set_option linter.unusedSimpArgs false
set_option maxRecDepth 100000 in
set_option maxHeartbeats 8000000 in
theorem rappendS_any {y0 : Ry} (hok0 : RyOk y0) {w : World} (h0 : (ryR y0).p w) {pa : Option Addr} {pc : Nat} {us : List Value} {ps : List Bs} (hI : PayIn w pa pc us ps) (hpc : ps.length ≤ 100) (hln : y0.S.pl.length ≤ 1000000) (hl0 : y0.S.last ≤ 2000000) (hsz : y0.S.size ≤ 1000000000)
    {q k : Nat} (hB : Rb q k y0.M) (hk : k ≤ 300000) (hq : q ≤ 16777216) :
    Calls Tryz.prog 29 ([.agg (ryC y0), .slice pa ps.length pc] : List Value).toArray w (RefQ y0.rr w (rappendS ⟨y0.S, y0.M⟩ ps).1.D (rappendS ⟨y0.S, y0.M⟩ ps).1.S (rappendS ⟨y0.S, y0.M⟩ ps).2) := by
  obtain ⟨res, hres⟩ : ∃ res, res = rappendS ⟨y0.S, y0.M⟩ ps := ⟨_, rfl⟩
  rw [← hres]
  unfold rappendS at hres
  dsimp only at hres
  have hfl := hB.fl
  have hml : maxLen ≤ 9223372036854775807 := by decide
  refine (enterP tab_ok Tryz.func29 rfl Tryz.ntmps29 rfl (St.reads (L := [rs (ryR y0)]) (fun e he => by
    obtain rfl : e = rs (ryR y0) := by simpa using he
    exact ⟨(rsOk _ _).2 h0, fun k hk => ((rsW _ _).1 hk).elim⟩)) (R := fun v w' => RefQ y0.rr w res.1.D res.1.S res.2 (.returned v) w') ?_).mono (fun e w' ⟨u, he, h1⟩ => by rw [he]; exact h1)
  refine cutS tab_ok (fun b : Nat × Nat × Nat => (∀ p ∈ ps, p.length ≤ 65536) ∧ res = if (rputsD y0.S.size ⟨y0.M, y0.S.last⟩ ps).2 = 0 then (⟨{ y0.S with pl := y0.S.pl ++ ps, last := (rputsD y0.S.size ⟨y0.M, y0.S.last⟩ ps).1.last }, (rputsD y0.S.size ⟨y0.M, y0.S.last⟩ ps).1.M⟩, 0)
    else (⟨{ y0.S with stuck := (rputsD y0.S.size ⟨y0.M, y0.S.last⟩ ps).2 }, (rputsD y0.S.size ⟨y0.M, y0.S.last⟩ ps).1.M⟩, (rputsD y0.S.size ⟨y0.M, y0.S.last⟩ ps).2)) (fun b => ⟨[(1, .slice pa ps.length pc), (2, ptr b.1), (4, ptr b.2.1), (12, ptr b.2.2)], [rs (ryR y0), cl b.1 (ryC y0) TRS, cl b.2.1 rz TRS, cl b.2.2 (ryC y0) TRS], []⟩) 10 ?_ (fun b ⟨hb1, hb2⟩ => rap_puts rfl hok0 h0 hI hb1 hpc hln hl0 hB hk hq (fun h => by rw [hb2, if_pos h]) (fun h => by rw [hb2, if_neg h]))
  intro b2 b4
  refine ld1 1 rfl (v := .int .i64 y0.S.stuck) rfl ?_
  by_cases hst : y0.S.stuck ≠ 0
  · rw [if_pos hst] at hres
    refine ct (by rw [bne_iff_ne]; omega) ?_
    refine drs [dead, cl b2 (ryC y0) TRS] [99] (.t 0 (.t 1 (.t 2 (.n 3 (.n 4 .nil))))) tab_ok mixed_ok (by kernel_rfl) (.dead (.cons (.drop .nil))) ?_
    refine ldN 1 rfl rfl ?_
    refine ld1 1 rfl (v := .int .i64 (y0.S.stuck : Nat)) rfl ?_
    refine sN 2 rfl rfl (ryC_one _) ?_ (by kernel_rfl)
    iterate 2 refine ⟨(.dead (.cons (.drop .nil))), ?_⟩
    refine ldN 2 rfl rfl ?_
    exact ⟨fun w1 hs => rap_done (y := y0) ⟨hok0.fs, hok0.sh, hok0.pls⟩ (fun j hj => .inl hj) hs rfl hres rfl⟩
  have hst0 : y0.S.stuck = 0 := by omega
  rw [if_neg hst] at hres
  refine cf (by rw [hst0]; rfl) ?_
  have hadr : ∀ i, i < ps.length → ∃ b o, pa = some ⟨b, o, none⟩ := fun i hi => hI.row.addr (fun e => by have := hI.pls.len; rw [e] at this; simp at this; omega)
  have hne : ∀ i, i < ps.length → us ≠ [] := fun i hi e => by have := hI.pls.len; rw [e] at this; simp at this; omega
  refine lp tab_ok (fun i : Nat => i ≤ ps.length ∧ ∀ j (hj : j < ps.length), j < i → ps[j].length ≤ 65536) (fun i => ⟨[(1, .slice pa ps.length pc), (2, ptr b2), (4, ptr b4), (6, .int .i64 i)], [rs (ryR y0), cl b2 (ryC y0) TRS, cl b4 rz TRS], []⟩) (fun i => ps.length - i) 0 ⟨Nat.zero_le _, fun j hj h => by cases h⟩ ⟨⟨rfl, rfl, rfl, rfl, trivial⟩, Sub.refl _, rfl⟩ ?_
  rintro i ⟨hi, hsm⟩
  refine cd (fun h => ?_) (fun h => ?_)
  · have hlt : i < ps.length := by omega
    obtain ⟨pb, po, rfl⟩ := hadr i hlt
    obtain ⟨qa, qc, hpv⟩ := hI.pls.at (i := i) (p := ps[i]) (by simp [hlt])
    have hpm := hI.mx _ (List.getElem_mem hlt)
    refine ⟨by omega, by omega, ?_⟩
    refine ldo (hI.row.at hpv rfl) (hI.row.lt0 (hne i hlt)) ?_
    by_cases hbig : 65536 < ps[i].length
    · have hany : (ps.any fun p => decide (65536 < p.length)) = true := List.any_eq_true.2 ⟨ps[i], List.getElem_mem hlt, decide_eq_true hbig⟩
      rw [if_pos hany] at hres
      refine ct (decide_eq_true (by omega)) ?_
      refine ldN 1 rfl rfl ?_
      refine sN 2 rfl rfl (ryC_one _) ?_ (by kernel_rfl)
      refine ldN 2 rfl rfl ?_
      exact ⟨fun w1 hs => rap_done hok0 (fun j hj => .inl hj) hs rfl hres rfl⟩
    · refine cf (decide_eq_false (by omega)) ?_
      refine .as ((i + 1 : Nat) : Int) (by omega) (by simp only [mn]; omega) (by simp only [mx]; omega) ?_
      refine ⟨i + 1, ⟨hlt, fun j hj hji => ?_⟩, by omega, ⟨⟨rfl, rfl, rfl, rfl, trivial⟩, Sub.refl _, rfl⟩⟩
      by_cases e : j = i
      · subst e; omega
      · exact hsm j hj (by omega)
  have hps : ∀ p ∈ ps, p.length ≤ 65536 := fun p hp => by
    obtain ⟨j, hj, rfl⟩ := List.getElem_of_mem hp
    exact hsm j hj (by omega)
  have hany : ¬ (ps.any fun p => decide (65536 < p.length)) = true := by
    intro h9
    obtain ⟨p, hp, h9⟩ := List.any_eq_true.1 h9
    have := hps p hp
    have := of_decide_eq_true h9
    omega
  rw [if_neg hany] at hres
  refine ldN 1 rfl rfl ?_
  obtain ⟨l, hl⟩ : ∃ l, l = rlenP y0.M y0.S.last := ⟨_, rfl⟩
  have hlq := rlen_le hB y0.S.last
  rw [← hl] at hlq hres
  refine cvs (v := .int .i64 l) (fun w1 hs => by rw [hl]; exact rlen_any y0.M _ y0.S _ y0.rr (by omega) (by omega) w1 (hok0.rfs (hs.res (k := 0) rfl)) (ryR_lt (hs.res (k := 0) rfl))) ?_
  refine lp tab_ok (fun y : Nat × Nat × Nat × Bool => y.1 ≤ ps.length ∧ needF y0.S.size (0, l, false) ps = needF y0.S.size y.2 (ps.drop y.1) ∧ y.2.1 ≤ 65544 * y.1 ∧ y.2.2.1 ≤ 16777216 + 65544 * y.1)
    (fun y => ⟨[(1, .slice pa ps.length pc), (2, ptr b2), (4, ptr b4), (7, .int .i64 y.2.1), (8, .int .i64 (if y.2.2.2 = true then 24 else 0)), (9, .int .i64 y.2.2.1), (10, .int .i64 y.1)], [rs (ryR y0), cl b2 (ryC y0) TRS, cl b4 rz TRS], []⟩) (fun y => ps.length - y.1) (0, 0, l, false) ⟨Nat.zero_le _, rfl, Nat.zero_le _, by dsimp only; omega⟩ ⟨⟨rfl, rfl, rfl, rfl, rfl, rfl, rfl, trivial⟩, Sub.refl _, rfl⟩ ?_
  rintro ⟨i, n, len, beg⟩ ⟨hi, hn, hz1, hz2⟩
  dsimp only at hi hn hz1 hz2 ⊢
  refine cd (fun h => ?_) (fun h => ?_)
  · have hlt : i < ps.length := by omega
    obtain ⟨pb, po, rfl⟩ := hadr i hlt
    obtain ⟨qa, qc, hpv⟩ := hI.pls.at (i := i) (p := ps[i]) (by simp [hlt])
    have hp6 := hps _ (List.getElem_mem hlt)
    rw [List.drop_eq_getElem_cons hlt, need_step] at hn
    generalize ps[i] = p at hn hpv hp6
    refine ⟨by omega, by omega, ?_⟩
    refine ldo (hI.row.at hpv rfl) (hI.row.lt0 (hne i hlt)) ?_
    refine .as ((8 + p.length : Nat) : Int) (by omega) (by simp only [mn]; omega) (by simp only [mx]; omega) ?_
    have key : ∀ (b : Bool), begP y0.S.size len (8 + p.length) = b → ∃ y : Nat × Nat × Nat × Bool, (y.1 ≤ ps.length ∧ needF y0.S.size (0, l, false) ps = needF y0.S.size y.2 (ps.drop y.1) ∧ y.2.1 ≤ 65544 * y.1 ∧ y.2.2.1 ≤ 16777216 + 65544 * y.1) ∧ y = (i + 1, n + (8 + p.length), (if b = true then 0 else len) + (8 + p.length), beg || b) := fun b hb => by
      rw [hb] at hn
      refine ⟨(i + 1, n + (8 + p.length), (if b = true then 0 else len) + (8 + p.length), beg || b), ⟨hlt, hn, by dsimp only; omega, ?_⟩, rfl⟩
      dsimp only
      split <;> omega
    by_cases h0l : 0 < len
    · have d1 : decide (((len : Nat) : Int) > 0) = true := decide_eq_true (by omega)
      have d2 : (decide (((len : Nat) : Int) > 0) == true) = true := by rw [d1]; rfl
      iterate 3 refine ct d2 ?_
      refine .as ((len + (8 + p.length) : Nat) : Int) (by omega) (by simp only [mn]; omega) (by simp only [mx]; omega) ?_
      iterate 2 refine ct d2 ?_
      refine ld1 1 rfl (v := .int .i64 y0.S.size) rfl ?_
      refine ct d2 ?_
      refine ct d1 ?_
      by_cases hex : y0.S.size < len + (8 + p.length)
      · obtain ⟨y, hy, rfl⟩ := key true (by unfold begP; rw [decide_eq_true h0l, decide_eq_true hex]; rfl)
        refine ct (decide_eq_true (by omega)) ?_
        refine .as ((0 + (8 + p.length) : Nat) : Int) (by omega) (by simp only [mn]; omega) (by simp only [mx]; omega) ?_
        refine .as ((n + (8 + p.length) : Nat) : Int) (by omega) (by simp only [mn]; omega) (by simp only [mx]; omega) ?_
        refine .as ((i + 1 : Nat) : Int) (by omega) (by simp only [mn]; omega) (by simp only [mx]; omega) ?_
        exact ⟨_, hy, by dsimp only; omega, ⟨⟨rfl, rfl, rfl, rfl, by dsimp only; rw [Bool.or_true, if_pos rfl]; rfl, rfl, rfl, trivial⟩, Sub.refl _, rfl⟩⟩
      · obtain ⟨y, hy, rfl⟩ := key false (by unfold begP; rw [decide_eq_false hex, Bool.and_false])
        refine cf (decide_eq_false (by omega)) ?_
        refine .as ((len + (8 + p.length) : Nat) : Int) (by omega) (by simp only [mn]; omega) (by simp only [mx]; omega) ?_
        refine .as ((n + (8 + p.length) : Nat) : Int) (by omega) (by simp only [mn]; omega) (by simp only [mx]; omega) ?_
        refine .as ((i + 1 : Nat) : Int) (by omega) (by simp only [mn]; omega) (by simp only [mx]; omega) ?_
        exact ⟨_, hy, by dsimp only; omega, ⟨⟨rfl, rfl, rfl, rfl, by dsimp only; rw [Bool.or_false]; rfl, rfl, rfl, trivial⟩, Sub.refl _, rfl⟩⟩
    · have d1 : decide (((len : Nat) : Int) > 0) = false := decide_eq_false (by omega)
      have d2 : (decide (((len : Nat) : Int) > 0) == true) = false := by rw [d1]; rfl
      obtain ⟨y, hy, rfl⟩ := key false (by unfold begP; rw [decide_eq_false h0l, Bool.false_and])
      repeat (first | refine cf d2 ?_ | refine cf d1 ?_ | refine cf rfl ?_)
      refine .as ((len + (8 + p.length) : Nat) : Int) (by omega) (by simp only [mn]; omega) (by simp only [mx]; omega) ?_
      refine .as ((n + (8 + p.length) : Nat) : Int) (by omega) (by simp only [mn]; omega) (by simp only [mx]; omega) ?_
      refine .as ((i + 1 : Nat) : Int) (by omega) (by simp only [mn]; omega) (by simp only [mx]; omega) ?_
      exact ⟨_, hy, by dsimp only; omega, ⟨⟨rfl, rfl, rfl, rfl, by dsimp only; rw [Bool.or_false]; rfl, rfl, rfl, trivial⟩, Sub.refl _, rfl⟩⟩
  obtain rfl : i = ps.length := by omega
  rw [List.drop_length, needF] at hn
  obtain ⟨bg, hbg⟩ : ∃ bg : Nat, bg = if beg = true then 24 else 0 := ⟨_, rfl⟩
  have hbi : (if beg = true then (24 : Int) else 0) = (bg : Int) := by rw [hbg]; cases beg <;> rfl
  have hb24 : bg ≤ 24 := by rw [hbg]; split <;> omega
  have hneed : needP { y0.S with length := l } ps = n + bg := by
    unfold needP
    dsimp only
    rw [hn, hbg]
    cases beg <;> rfl
  rw [hneed] at hres
  rw [hbi]
  have hqt := hB.qt
  have hus := hB.us
  refine dr [rs (ryR y0), cl b2 (ryC y0) TRS, dead] 99 (.t 0 (.t 1 (.t 2 (.t 3 (.t 4 (.t 5 (.t 6 (.t 7 (.t 8 (.t 9 (.t 10 .nil))))))))))) tab_ok mixed_ok (by kernel_rfl) (.cons (.cons (.dead .nil))) ?_
  refine .as ((n + bg : Nat) : Int) (by omega) (by simp only [mn]; omega) (by simp only [mx]; omega) ?_
  refine ld1 1 rfl (v := .int .i64 y0.M.quota) rfl ?_
  refine ldP 1 (d := rdC y0.M (.slice y0.fa y0.ps.length y0.fc)) rfl rfl rfl ?_
  refine czs (fun w1 hs => rused_any y0.M _ y0.M.files y0.rr (by omega) (by omega) w1 (hok0.rfs (hs.res (k := 0) rfl))) ?_
  refine .as ((y0.M.quota : Int) - usedD y0.M.files) rfl (by simp only [mn]; omega) (by simp only [mx]; omega) ?_
  by_cases hfull : (y0.M.quota : Int) - usedD y0.M.files < ((n + bg : Nat) : Int)
  · rw [if_pos hfull] at hres
    refine ct (decide_eq_true (by omega)) ?_
    refine s1e 1 (ryC { y0 with S := { y0.S with stuck := 3 } }) rfl (by show 10 < 11; decide) rfl ?_
    refine drs [dead, cl b2 (ryC { y0 with S := { y0.S with stuck := 3 } }) TRS] [99] (.t 0 (.t 1 (.t 2 (.n 3 (.n 4 .nil))))) tab_ok mixed_ok (by kernel_rfl) (.dead (.cons (.drop .nil))) ?_
    refine ldN 1 rfl rfl ?_
    refine ld1 1 rfl (v := .int .i64 (3 : Nat)) rfl ?_
    refine sN 2 rfl rfl (ryC_one _) ?_ (by kernel_rfl)
    iterate 2 refine ⟨(.dead (.cons (.drop .nil))), ?_⟩
    refine ldN 2 rfl rfl ?_
    exact ⟨fun w1 hs => rap_done (y := { y0 with S := { y0.S with stuck := 3 } }) ⟨hok0.fs, hok0.sh, hok0.pls⟩ (fun j hj => .inl hj) hs rfl hres rfl⟩
  rw [if_neg hfull] at hres
  refine cf (decide_eq_false (by omega)) ?_
  refine ld1 1 rfl (v := .bool y0.M.gone) rfl ?_
  cases hg : y0.M.gone with
  | true =>
    rw [if_pos hg] at hres
    refine ct rfl ?_
    refine s1e 1 (ryC { y0 with S := { y0.S with stuck := 4 } }) rfl (by show 10 < 11; decide) rfl ?_
    refine drs [dead, cl b2 (ryC { y0 with S := { y0.S with stuck := 4 } }) TRS] [99] (.t 0 (.t 1 (.t 2 (.n 3 (.n 4 .nil))))) tab_ok mixed_ok (by kernel_rfl) (.dead (.cons (.drop .nil))) ?_
    refine ldN 1 rfl rfl ?_
    refine ld1 1 rfl (v := .int .i64 (4 : Nat)) rfl ?_
    refine sN 2 rfl rfl (ryC_one _) ?_ (by kernel_rfl)
    iterate 2 refine ⟨(.dead (.cons (.drop .nil))), ?_⟩
    refine ldN 2 rfl rfl ?_
    exact ⟨fun w1 hs => rap_done (y := { y0 with S := { y0.S with stuck := 4 } }) ⟨hok0.fs, hok0.sh, hok0.pls⟩ (fun j hj => .inl hj) hs rfl hres rfl⟩
  | false =>
    rw [if_neg (by rw [hg]; decide)] at hres
    refine cf rfl ?_
    refine ldN 1 rfl rfl ?_
    intro b12
    refine sN 3 rfl rfl (ryC_one _) ?_ (by kernel_rfl)
    exact ⟨(b2, b4, b12), ⟨hps, hres⟩, ⟨⟨rfl, rfl, rfl, rfl, trivial⟩, Sub.refl _, rfl⟩⟩
end Go.Proofs.YteamnhpplclmfaaGreatDoor
end
section
namespace Go.Proofs.YteamnhpplclmfaaGreatDoor
open Go.RowKit Go.Sx
set_option linter.unusedVariables false
/-- a store and the reference's -/
structure Stq (T : StS) (x : Ry) : Prop where
  e : Eqv T.k.D x.M
  pl : T.S.pl = x.S.pl
  su : T.S.sure = x.S.sure
  la : T.S.last = x.S.last
  st : T.S.stuck = x.S.stuck
set_option maxRecDepth 100000 in
set_option maxHeartbeats 4000000 in
theorem stand_ry (T : StS) (hT : StOk T) (x : Ry) (hE : Stq T x) (hok : RyOk x) {q k : Nat} (hB : Bd q k T.k.D) (hq : q ≤ 16777216) (hk : k ≤ 900000) (hln : T.S.pl.length ≤ 2199023255552) (hmx : ∀ p ∈ T.S.pl, p.length ≤ 1000000) (w : World) (h : (stR T).p w) (hp : (ryR x).p w) :
    Calls Tryz.prog 37 ([ptr T.bs, ptr T.k.bd, .agg (ryC x)] : List Value).toArray w fun e w' => e = .returned (.bool true) ∧ Below w.heap.size w w' := by
  have hxx : ∀ z : Int, (z != z) = false := fun z => bne_self_eq_false z
  have hyy : ∀ z : Int, ((z != z) == false) = true := fun z => by rw [hxx]; rfl
  have hzz : ∀ z : Int, ((z == z) == true) = true := fun z => by rw [beq_self_eq_true]; rfl
  obtain ⟨va, vc, hva⟩ := sv_sl hT.row
  obtain ⟨xM, xfa, xfc, xps, xa, xc, xvs, xS, xrr⟩ := x
  have hpls := hok.pls
  have hr := hp.1.2.rd
  dsimp only at hpls hr hE
  obtain ⟨hEe, hEpl, hEsu, hEla, hEst⟩ := hE
  dsimp only at hEe hEpl hEsu hEla hEst
  refine enterV tab_ok Tryz.func37 rfl Tryz.ntmps37 rfl (St.reads (L := [rs (stR T).rd, rs (ryR ⟨xM, xfa, xfc, xps, xa, xc, xvs, xS, xrr⟩)]) (fun e he => by
    simp only [List.mem_cons, List.not_mem_nil, or_false] at he
    rcases he with rfl | rfl
    · exact ⟨(rsOk _ _).2 h, fun k hk => ((rsW _ _).1 hk).elim⟩
    · exact ⟨(rsOk _ _).2 hp, fun k hk => ((rsW _ _).1 hk).elim⟩)) ?_
  intro b5 b6
  refine dr [rs (stR T).rd, dead, cl b5 (ryC ⟨xM, xfa, xfc, xps, xa, xc, xvs, xS, xrr⟩) TRS, dead] 99 (.t 0 (.t 1 (.t 2 (.t 3 (.t 4 (.t 5 (.t 6 (.t 7 (.t 8 (.t 9 (.t 10 (.t 11 (.t 12 (.t 13 (.t 14 (.t 15 (.t 16 (.t 17 (.t 18 (.t 19 (.t 20 (.t 21 (.t 22 (.t 23 (.t 24 (.t 25 (.t 26 (.t 27 .nil)))))))))))))))))))))))))))) tab_ok mixed_ok (by kernel_rfl) (.cons (.dead (.cons (.dead .nil)))) ?_
  refine czs (v := .int .i64 (xS.pl.length : Nat)) (fun w1 hs => by have := stR_cl (show (stR T).p w1 from hs.res (k := 0) (r := (stR T).rd) rfl); rw [hva] at this; have h9 := len_any this; rwa [hEpl] at h9) ?_
  refine ld1 2 rfl (v := .slice xa xS.pl.length xc) rfl ?_
  repeat (first | refine ct rfl ?_ | refine cf rfl ?_ | refine ct (hyy _) ?_ | refine cf (hxx _) ?_ | refine ct (hzz _) ?_ | refine ct (beq_self_eq_true _) ?_)
  refine czs (v := .int .i64 (xS.sure : Nat)) (fun w1 hs => by have := sureS_any (stR_cl (show (stR T).p w1 from hs.res (k := 0) (r := (stR T).rd) rfl)); rwa [hEsu] at this) ?_
  repeat (first | refine ct rfl ?_ | refine cf rfl ?_ | refine ct (hyy _) ?_ | refine cf (hxx _) ?_ | refine ct (hzz _) ?_ | refine ct (beq_self_eq_true _) ?_)
  refine ld1 2 rfl (v := .int .i64 (xS.sure : Nat)) rfl ?_
  repeat (first | refine ct rfl ?_ | refine cf rfl ?_ | refine ct (hyy _) ?_ | refine cf (hxx _) ?_ | refine ct (hzz _) ?_ | refine ct (beq_self_eq_true _) ?_)
  refine czs (v := .int .i64 (xS.last : Nat)) (fun w1 hs => by have := last_any (stR_cl (show (stR T).p w1 from hs.res (k := 0) (r := (stR T).rd) rfl)); rwa [hEla] at this) ?_
  repeat (first | refine ct rfl ?_ | refine cf rfl ?_ | refine ct (hyy _) ?_ | refine cf (hxx _) ?_ | refine ct (hzz _) ?_ | refine ct (beq_self_eq_true _) ?_)
  refine ld1 2 rfl (v := .int .i64 (xS.last : Nat)) rfl ?_
  repeat (first | refine ct rfl ?_ | refine cf rfl ?_ | refine ct (hyy _) ?_ | refine cf (hxx _) ?_ | refine ct (hzz _) ?_ | refine ct (beq_self_eq_true _) ?_)
  refine czs (v := errV xS.stuck) (fun w1 hs => by have := stuck_any (stR_cl (show (stR T).p w1 from hs.res (k := 0) (r := (stR T).rd) rfl)); rwa [hEst] at this) ?_
  repeat (first | refine ct rfl ?_ | refine cf rfl ?_ | refine ct (hyy _) ?_ | refine cf (hxx _) ?_ | refine ct (hzz _) ?_ | refine ct (beq_self_eq_true _) ?_)
  refine cz (fun w1 => num_any xS.stuck w1) ?_
  repeat (first | refine ct rfl ?_ | refine cf rfl ?_ | refine ct (hyy _) ?_ | refine cf (hxx _) ?_ | refine ct (hzz _) ?_ | refine ct (beq_self_eq_true _) ?_)
  refine ld1 2 rfl (v := .int .i64 (xS.stuck : Nat)) rfl ?_
  repeat (first | refine ct rfl ?_ | refine cf rfl ?_ | refine ct (hyy _) ?_ | refine cf (hxx _) ?_ | refine ct (hzz _) ?_ | refine ct (beq_self_eq_true _) ?_)
  intro b7
  refine s1 4 rfl (by show 0 < 1; decide) ?_
  refine inl (C := ⟨Tryz.prog, tab, _, [], w, _⟩) tab_ok Tryz.func10 rfl Tryz.ntmps10 rfl ?_
  intro b1
  refine bk ?_
  have hpm : ∀ (i : Nat) (p : Bs), T.S.pl[i]? = some p → p.length ≤ 1000000 := fun i p hp => hmx p (List.mem_of_getElem? hp)
  refine rfiO (C := ⟨Tryz.prog, tab, 70, [], w, none⟩) (L0 := [rs (stR T).rd, rs (ryR ⟨xM, xfa, xfc, xps, xa, xc, xvs, xS, xrr⟩), cl b5 (ryC ⟨xM, xfa, xfc, xps, xa, xc, xvs, xS, xrr⟩) TRS, cl b6 #[.bool false] 4, cl b1 #[ptr T.bs] TPS]) (α := Unit) (β := Empty) tab_ok rfl rfl rfl
    (stall_itr b1 T hT hln (fun p hp => Nat.le_trans (hmx p hp) (by decide))) (fun i _ => i ≤ T.S.pl.length) (fun i _ => [cl b7 #[.int .i64 (i : Nat)] 3]) (fun y => y.elim) (fun y => y.elim) () (Nat.zero_le _) ?_
    (fun w' hs => ⟨⟨hs.nth (k := 4) rfl, hs.res (k := 0) (r := (stR T).rd) rfl⟩, ?_⟩) ?_ ?_ ?_ ?_
  · exact .cons _ (.cons _ (.cons _ (.cons _ (List.perm_append_comm (l₁ := [cl b1 #[ptr T.bs] TPS]) (l₂ := [cl b7 #[.int .i64 (0 : Nat)] 3])))))
  · rintro z (hz | hz | hz) e he hw
    · exact hz.elim
    · obtain rfl := List.mem_singleton.1 he
      subst hz
      exact (pw_ne hs.apart (i := 5) (j := 4) rfl rfl (by decide) _).1 hw (by simp)
    · obtain rfl := List.mem_singleton.1 he
      exact (pw_ne hs.apart (i := 5) (j := 0) rfl rfl (by decide) _).1 hw ((rsA (stR T).rd z).2 (.inr ((rsA (stR T) z).1 hz)))
  · rintro i args q j ⟨p, r, _, rfl, _⟩; rfl
  · rintro lq j args q j' _ w' ready busy ⟨p, r, hpj, rfl, rfl, hR, rfl⟩ hj
    have hjl := (List.getElem?_eq_some_iff.1 hpj).1
    have g2 := hpm j p hpj
    have hpx : xS.pl[j]? = some p := by rw [← hEpl]; exact hpj
    have hxl : j < xS.pl.length := (List.getElem?_eq_some_iff.1 hpx).1
    have hne : xvs ≠ [] := fun e => by have := hpls.len; rw [e] at this; rw [← this] at hxl; simp at hxl
    obtain ⟨pb, po, rfl⟩ := hr.addr hne
    obtain ⟨pa, pc, hpv⟩ := hpls.at hpx
    refine ⟨rfl, ?_⟩
    refine ld1 5 rfl rfl ?_
    repeat (first | refine ct rfl ?_ | refine cf rfl ?_ | refine ct (hyy _) ?_ | refine cf (hxx _) ?_ | refine ct (hzz _) ?_ | refine ct (beq_self_eq_true _) ?_)
    refine ld1 2 rfl (v := .slice (some ⟨pb, po, none⟩) xS.pl.length xc) rfl ?_
    repeat (first | refine ct rfl ?_ | refine cf rfl ?_ | refine ct (hyy _) ?_ | refine cf (hxx _) ?_ | refine ct (hzz _) ?_ | refine ct (beq_self_eq_true _) ?_)
    refine ⟨by omega, by omega, ?_⟩
    repeat (first | refine ct rfl ?_ | refine cf rfl ?_ | refine ct (hyy _) ?_ | refine cf (hxx _) ?_ | refine ct (hzz _) ?_ | refine ct (beq_self_eq_true _) ?_)
    refine .mk (.slice pa p.length pc) (fun w2 hs => (St.resR hs (k := 1) (r := ryR ⟨xM, xfa, xfc, xps, some ⟨pb, po, none⟩, xc, xvs, xS, xrr⟩) rfl : (ryR ⟨xM, xfa, xfc, xps, some ⟨pb, po, none⟩, xc, xvs, xS, xrr⟩).p w2).1.2.rd.at hpv rfl) ?_
    repeat (first | refine ct rfl ?_ | refine cf rfl ?_ | refine ct (hyy _) ?_ | refine cf (hxx _) ?_ | refine ct (hzz _) ?_ | refine ct (beq_self_eq_true _) ?_)
    refine cvs (fun w2 hs => same_yes _ _ p w2 (Rd.own hs 6 rfl hR) ((St.resR hs (k := 1) (r := ryR ⟨xM, xfa, xfc, xps, some ⟨pb, po, none⟩, xc, xvs, xS, xrr⟩) rfl : (ryR ⟨xM, xfa, xfc, xps, some ⟨pb, po, none⟩, xc, xvs, xS, xrr⟩).p w2).2 j _ _ hpv hpx).rd) ?_
    repeat (first | refine ct rfl ?_ | refine cf rfl ?_ | refine ct (hyy _) ?_ | refine cf (hxx _) ?_ | refine ct (hzz _) ?_ | refine ct (beq_self_eq_true _) ?_)
    refine over_in 6 rfl hR g2 ?_
    refine ld1 5 rfl rfl ?_
    refine .as ((j + 1 : Nat) : Int) (by omega) (by simp only [mn]; omega) (by simp only [mx]; omega) ?_
    refine s1 5 rfl (by show 0 < 1; decide) ?_
    exact ⟨(), hjl, (.drop (.drop (.drop (.drop (.drop (.cons (.drop (.cons .nil)))))))), fun e he b hb hnw => by
      obtain rfl := List.mem_singleton.1 he
      exact absurd (by simpa using hb) (by simpa using hnw)⟩
  · rintro j y b0 rfl hj
    refine ld1 5 rfl rfl ?_
    refine ld1 2 rfl (v := .slice xa xS.pl.length xc) rfl ?_
    rw [hEpl]
    repeat (first | refine ct rfl ?_ | refine cf rfl ?_ | refine ct (hyy _) ?_ | refine cf (hxx _) ?_ | refine ct (hzz _) ?_ | refine ct (beq_self_eq_true _) ?_)
    refine ldP 2 (d := rdC xM (.slice xfa xps.length xfc)) rfl rfl rfl ?_
    repeat (first | refine ct rfl ?_ | refine cf rfl ?_ | refine ct (hyy _) ?_ | refine cf (hxx _) ?_ | refine ct (hzz _) ?_ | refine ct (beq_self_eq_true _) ?_)
    refine cvs (fun w1 hs => same_disk T.k xM xfa xfc xps xrr hEe hB hq hk hok.fs hok.sh w1 (stR_dk (show (stR T).p w1 from hs.res (k := 0) (r := (stR T).rd) rfl)) (hs.res (k := 1) (r := ryR ⟨xM, xfa, xfc, xps, xa, xc, xvs, xS, xrr⟩) rfl).1.1) ?_
    repeat (first | refine ct rfl ?_ | refine cf rfl ?_ | refine ct (hyy _) ?_ | refine cf (hxx _) ?_ | refine ct (hzz _) ?_ | refine ct (beq_self_eq_true _) ?_)
    refine s1 3 rfl (by show 0 < 1; decide) ?_
    refine .mk 6 rfl ?_
    refine ld1 3 rfl rfl ?_
    exact rt rfl
  · intro y; exact y.elim
end Go.Proofs.YteamnhpplclmfaaGreatDoor
end
section
namespace Go.Proofs.YteamnhpplclmfaaGreatDoor
open Go.RowKit Go.Sx
set_option linter.unusedVariables false
def pot (D : Dk) : Nat := D.steps + D.files.length
theorem pot_step (D : Dk) : (stepD D).2.steps ≤ D.steps + 1 ∧ ((stepD D).1 = false → (stepD D).2.steps = D.steps) := by
  unfold stepD
  split
  · exact ⟨Nat.le_succ _, fun _ => rfl⟩
  · exact ⟨Nat.le_refl _, fun h => by cases h⟩
theorem pot_act (D : Dk) {fs : List Fe} (k : Nat) (hf : fs.length + 1 ≤ D.files.length + k) (hk : 0 < k) : pot (actD D fs).1 ≤ pot D + k := by
  obtain ⟨h1, h2⟩ := pot_step D
  have h3 := stepD_files D
  unfold actD pot
  split
  · show (stepD D).2.steps + fs.length ≤ _; omega
  · rename_i h
    rw [h2 (by simpa using h), h3]; omega
theorem pot_act0 (D : Dk) {fs : List Fe} (hf : fs.length + 1 ≤ D.files.length) : pot (actD D fs).1 ≤ pot D := by
  obtain ⟨h1, h2⟩ := pot_step D
  have h3 := stepD_files D
  unfold actD pot
  split
  · show (stepD D).2.steps + fs.length ≤ _; omega
  · rename_i h
    rw [h2 (by simpa using h), h3]; omega
theorem pot_append (D : Dk) (n x : Bs) : pot (appendD D n x).1 ≤ pot D + 2 := by
  have e1 : appendD D n x = if namedL n = false then (D, 5) else if (D.quota : Int) - usedD D.files < x.length then (D, 3) else actD D (setF ⟨n, (match findF n D.files with | some f => f.bs | none => []) ++ x, match findF n D.files with | some f => f.sure | none => 0⟩ D.files) := by
    unfold appendD actD; rfl
  rw [e1]
  split
  · exact Nat.le_add_right _ _
  · split
    · exact Nat.le_add_right _ _
    · exact pot_act D 2 (by have := len_set ⟨n, (match findF n D.files with | some f => f.bs | none => []) ++ x, match findF n D.files with | some f => f.sure | none => 0⟩ D.files; omega) (by decide)
theorem pot_sync (D : Dk) (n : Bs) : pot (syncD D n).1 ≤ pot D + 2 := by
  unfold syncD
  cases hf : findF n D.files with
  | none => exact Nat.le_add_right _ _
  | some f => exact pot_act D 2 (by have := len_set ⟨n, f.bs, f.bs.length⟩ D.files; omega) (by decide)
theorem pot_cut (D : Dk) (n : Bs) (z : Int) : pot (cutD D n z).1 ≤ pot D + 2 := by
  unfold cutD
  cases hf : findF n D.files with
  | none => exact Nat.le_add_right _ _
  | some f =>
    dsimp only
    split
    · exact Nat.le_add_right _ _
    · exact pot_act D 2 (Nat.add_le_add_right (len_set _ D.files) 1) (by decide)
theorem pot_rename (D : Dk) (n m : Bs) : pot (renameD D n m).1 ≤ pot D + 2 := by
  unfold renameD
  cases hf : findF n D.files with
  | none => exact Nat.le_add_right _ _
  | some f =>
    dsimp only
    split
    · exact Nat.le_add_right _ _
    · exact pot_act D 2 (by have := len_set ⟨m, f.bs, f.bs.length⟩ (delF n D.files); have := (delF_sub n D.files).length_le; omega) (by decide)
theorem len_del {n : Bs} {f : Fe} : ∀ {fs : List Fe}, findF n fs = some f → (delF n fs).length + 1 = fs.length
  | [], h => by cases h
  | g :: l, h => by
    rw [findF] at h
    rw [delF]
    by_cases e : n = g.name
    · rw [if_pos e]; rfl
    · rw [if_neg e] at h ⊢
      rw [List.length_cons, List.length_cons, len_del h]
theorem pot_drop (D : Dk) (n : Bs) : pot (dropD D n).1 ≤ pot D := by
  unfold dropD
  cases hf : findF n D.files with
  | none => exact Nat.le_refl _
  | some f => exact pot_act0 D (by have := len_del hf; omega)
theorem pot_then {x : Dk × Nat} {f : Dk → Dk × Nat} {k j : Nat} (h : pot x.1 ≤ k) (hf : ∀ D, pot (f D).1 ≤ pot D + j) : pot (thenD x f).1 ≤ k + j := by
  unfold thenD
  split
  · have := hf x.1; omega
  · omega
theorem pot_next (D : Dk) (last : Nat) : pot (nextD D last).1 ≤ pot D + 8 :=
  pot_then (k := pot D + 6) (j := 2) (pot_then (k := pot D + 4) (j := 2) (pot_then (k := pot D + 2) (j := 2) (pot_sync D _) fun D => pot_append D _ _) fun D => pot_sync D _) fun D => pot_rename D _ _
theorem pot_put (size : Nat) (x : Pt) (p : Bs) : pot (putD size x p).1.D ≤ pot x.D + 10 := by
  have hn := pot_next x.D x.last
  have hg : pot (goD size x p).1.D ≤ pot x.D + 8 := by
    unfold goD
    split
    · split
      · exact hn
      · exact hn
    · exact Nat.le_add_right _ _
  unfold putD
  split
  · have := pot_append (goD size x p).1.D (nameS (goD size x p).1.last) (recP p)
    dsimp only; omega
  · omega
theorem pot_puts (size : Nat) (ps : List Bs) : ∀ x : Pt, pot (putsD size x ps).1.D ≤ pot x.D + 10 * ps.length := by
  induction ps with
  | nil => exact fun x => Nat.le_refl _
  | cons p ps ih =>
    intro x
    have h1 := pot_put size x p
    have h2 := ih (putD size x p).1
    rw [putsD, List.length_cons]
    split
    · omega
    · omega
theorem pot_appS (x : Sd) (ps : List Bs) : pot (appendS x ps).1.D ≤ pot x.D + 10 * ps.length := by
  have h := pot_puts x.S.size ps ⟨x.D, x.S.last, x.S.length⟩
  dsimp only at h
  unfold appendS
  split
  · exact Nat.le_add_right _ _
  split
  · exact Nat.le_add_right _ _
  split
  · exact Nat.le_add_right _ _
  split
  · exact Nat.le_add_right _ _
  split
  · exact h
  · exact h
theorem pot_syncS (x : Sd) : pot (syncS x).1.D ≤ pot x.D + 2 := by
  have h := pot_sync x.D (nameS x.S.last)
  unfold syncS
  split
  · exact Nat.le_add_right _ _
  split
  · exact Nat.le_add_right _ _
  split
  · split
    · exact h
    · exact h
  · exact Nat.le_add_right _ _
theorem pot_crash (D : Dk) (k : Int) : pot (crashD D k) = pot D := by
  show D.steps + (D.files.map (crashF k)).length = _
  rw [List.length_map]; rfl
theorem pot_dr1 (D : Dk) : pot (dr1 D).1 ≤ pot D := by
  unfold dr1
  split
  · exact pot_drop D newB
  · exact Nat.le_refl _
theorem pot_load (x : Ld) (last n : Nat) : pot (loadD x last n).1.D ≤ pot x.D + 4 := by
  unfold loadD
  cases hf : findF (nameS n) x.D.files with
  | none => exact Nat.le_add_right _ _
  | some f =>
    dsimp only
    split
    · exact Nat.le_add_right _ _
    split
    · split
      · exact Nat.le_add_right _ _
      · exact Nat.le_add_right _ _
    · refine pot_then (k := pot x.D + 2) ?_ fun D => pot_sync D _
      split
      · exact pot_cut x.D _ _
      · exact Nat.le_add_right _ _
theorem pot_loads (last : Nat) : ∀ (k n : Nat) (x : Ld), k ≤ last + 1 - n → pot (loadsD k x last n).1.D ≤ pot x.D + 4 := by
  intro k
  induction k with
  | zero => exact fun n x _ => Nat.le_add_right _ _
  | succ k ih =>
    intro n x hk
    have h1 := pot_load x last n
    rw [loadsD_step]
    split
    · by_cases hn : n < last
      · have := ih (n + 1) (loadD x last n).1 (by omega)
        rw [load_low hn] at this
        exact this
      · obtain rfl : k = 0 := by omega
        exact h1
    · exact h1
theorem pot_drops (b : Bs) (l : List Bs) : ∀ x : Dk × Nat, pot (dropsD b x l).1 ≤ pot x.1 := by
  induction l with
  | nil => exact fun x => Nat.le_refl _
  | cons f l ih =>
    intro x
    rw [dropsD]
    refine Nat.le_trans (ih _) ?_
    split
    · exact pot_then (j := 0) (Nat.le_refl _) fun D => pot_drop D f
    · exact Nat.le_refl _
theorem pot_open (D : Dk) (size : Nat) : pot (openP D size).D ≤ pot D + 4 := by
  refine Nat.le_trans (pot_drops _ _ _) ?_
  show pot (ldOf D).1.D ≤ _
  have h := pot_dr1 D
  unfold Go.Proofs.YteamnhpplclmfaaGreatDoor.ldOf ldAll
  split
  · have := pot_loads (mfL (dr1 D)) (mfL (dr1 D)) 1 ⟨(dr1 D).1, [], 0⟩ (by omega)
    dsimp only at this; omega
  · dsimp only; omega
/-- a disk that is not too large, by its steps and files together -/
structure Bw (q k : Nat) (D : Dk) : Prop where
  b : ∃ k', Bd q k' D
  p : pot D ≤ k
theorem Bw.bd {q k : Nat} {D : Dk} (h : Bw q k D) : Bd q k D := by
  obtain ⟨⟨k', hb⟩, hp⟩ := h
  unfold pot at hp
  exact ⟨hb.qt, by omega, hb.lf, ⟨hb.f.n, hb.f.z, hb.f.q, by omega⟩⟩
theorem Bw.le {q k k' : Nat} {D : Dk} (h : Bw q k D) (hk : k ≤ k') : Bw q k' D := ⟨h.b, Nat.le_trans h.p hk⟩
theorem Bw.appS {q k : Nat} {x : Sd} (h : Bw q k x.D) (ps : List Bs) : Bw q (k + 10 * ps.length) (appendS x ps).1.D := ⟨⟨_, h.bd.appS ps⟩, by have := pot_appS x ps; have := h.p; omega⟩
theorem Bw.syncS {q k : Nat} {x : Sd} (h : Bw q k x.D) : Bw q (k + 2) (syncS x).1.D := ⟨⟨_, h.bd.syncS⟩, by have := pot_syncS x; have := h.p; omega⟩
theorem Bw.arm {q k : Nat} {D : Dk} (h : Bw q k D) (n : Nat) (hn : n ≤ 9223372036854775807) : Bw q k { D with armed := true, left := n } := ⟨⟨_, h.bd.arm n hn⟩, h.p⟩
theorem Bw.crash {q k : Nat} {D : Dk} (h : Bw q k D) (z : Int) : Bw q k (crashD D z) := ⟨⟨_, h.bd.crash z⟩, by rw [pot_crash]; exact h.p⟩
theorem Bw.open {q k : Nat} {D : Dk} (h : Bw q k D) (size : Nat) : Bw q (k + 4) (openP D size).D := ⟨⟨_, h.bd.open size⟩, by have := pot_open D size; have := h.p; omega⟩
/-- how a store and its disk stand behind any acts -/
structure Hp (m : Nat) (S : Sr) (D : Dk) : Prop where
  st : ∃ Ss P q, Gd Ss P q D.files ∧ Ss.length ≤ m ∧ Ss.flatten.length + P.length ≤ m ∧ (S.stuck = 0 → Al ⟨D, S.last, S.length⟩ Ss P q)
  la : S.last ≤ m + 1
  le : S.length ≤ 16777216 + 308 * m
  pl : S.pl.length ≤ m
  ps : ∀ p ∈ S.pl, p.length ≤ 65536
theorem Hp.zero (size : Nat) (D : Dk) (hD : D.files = []) : Hp 0 ⟨size, [], 0, 1, 0, 0⟩ D :=
  ⟨⟨[], [], 0, by rw [hD]; exact Gd.nil, Nat.le_refl _, Nat.le_refl _, fun _ => ⟨by rw [hD]; exact Gd.nil, by rw [hD]; rfl, rfl, rfl⟩⟩, Nat.le_refl _, Nat.zero_le _, Nat.le_refl _, fun p hp => by cases hp⟩
theorem Hp.stop {m m' : Nat} {S S' : Sr} {D D' : Dk} (h : Hp m S D) (hm : m ≤ m') (hs : S'.stuck = 0 → S.stuck = 0) (h1 : S'.last = S.last) (h2 : S'.length = S.length) (h3 : S'.pl = S.pl) (hD : D'.files = D.files) : Hp m' S' D' := by
  obtain ⟨Ss, P, q, a, b, c, d⟩ := h.st
  refine ⟨⟨Ss, P, q, by rw [hD]; exact a, by omega, by omega, fun h0 => ?_⟩, by have := h.la; omega, by have := h.le; rw [h2]; omega, by have := h.pl; rw [h3]; omega, by rw [h3]; exact h.ps⟩
  have e := d (hs h0)
  exact ⟨by show Gd Ss P q D'.files; rw [hD]; exact a, by show findF newB D'.files = none; rw [hD]; exact e.nn, by show S'.last = _; rw [h1]; exact e.la, by show S'.length = _; rw [h2]; exact e.le⟩
theorem Hp.append {m : Nat} {S : Sr} {D : Dk} (h : Hp m S D) (ps : List Bs) (hp : ∀ p ∈ ps, ¬ (300 < p.length ∧ p.length ≤ 65536)) (hm : m + ps.length ≤ 10000) :
    Hp (m + ps.length) (appendS ⟨S, D⟩ ps).1.S (appendS ⟨S, D⟩ ps).1.D := by
  unfold appendS
  by_cases hst : S.stuck ≠ 0
  · rw [if_pos hst]
    exact h.stop (Nat.le_add_right _ _) id rfl rfl rfl rfl
  rw [if_neg hst]
  by_cases hbig : (ps.any fun p => decide (65536 < p.length)) = true
  · rw [if_pos hbig]
    exact h.stop (Nat.le_add_right _ _) id rfl rfl rfl rfl
  rw [if_neg hbig]
  have hp6 : ∀ p ∈ ps, p.length ≤ 65536 := fun p hq => by
    have h1 : (ps.any fun p => decide (65536 < p.length)) = false := by simpa using hbig
    have h2 := List.any_eq_false.1 h1 p hq
    simpa using h2
  have hp3 : ∀ p ∈ ps, p.length ≤ 300 := fun p hq => by
    have h1 := hp6 p hq
    have h2 := hp p hq
    omega
  split
  · exact h.stop (Nat.le_add_right _ _) (fun h0 => by cases h0) rfl rfl rfl rfl
  split
  · exact h.stop (Nat.le_add_right _ _) (fun h0 => by cases h0) rfl rfl rfl rfl
  obtain ⟨Ss, P, q, a, b, c, d⟩ := h.st
  have al := d (by simpa using hst)
  obtain ⟨S2, P2, q2, k, g1, c1, l1, t1, al1⟩ := puts_plain (size := S.size) ps hp6 al (by omega)
  have hl := puts_len S.size 300 ps hp3 ⟨D, S.last, S.length⟩
  have hla := h.la
  have hle := h.le
  have hpl := h.pl
  have ht := congrArg List.length t1
  rw [List.length_append, List.length_append, List.length_append, List.length_take] at ht
  dsimp only at hl g1
  split
  · rename_i a1
    obtain ⟨b1, b2⟩ := al1 a1
    refine ⟨⟨S2, P2, q2, g1, by omega, by omega, fun _ => b1⟩, ?_, ?_, ?_, fun p hq => ?_⟩
    · show (putsD S.size ⟨D, S.last, S.length⟩ ps).1.last ≤ _; omega
    · show (putsD S.size ⟨D, S.last, S.length⟩ ps).1.length ≤ _; omega
    · show (S.pl ++ ps).length ≤ _; rw [List.length_append]; omega
    · rcases List.mem_append.1 (show p ∈ S.pl ++ ps from hq) with hq | hq
      · exact h.ps p hq
      · exact hp6 p hq
  · rename_i a1
    refine ⟨⟨S2, P2, q2, g1, by omega, by omega, fun h0 => absurd h0 a1⟩, ?_, ?_, ?_, h.ps⟩
    · show S.last ≤ _; omega
    · show S.length ≤ _; omega
    · show S.pl.length ≤ _; omega
theorem Hp.sync {m : Nat} {S : Sr} {D : Dk} (h : Hp m S D) : Hp m (syncS ⟨S, D⟩).1.S (syncS ⟨S, D⟩).1.D := by
  unfold syncS
  by_cases hst : S.stuck ≠ 0
  · rw [if_pos hst]
    exact h
  rw [if_neg hst]
  split
  · exact h.stop (Nat.le_refl _) (fun h0 => by cases h0) rfl rfl rfl rfl
  obtain ⟨Ss, P, q, a, b, c, d⟩ := h.st
  have al := d (by simpa using hst)
  have hla : S.last = Ss.length + 1 := al.la
  cases hh : hasD D (nameS S.last) with
  | false =>
    rw [if_neg (by decide)]
    exact ⟨⟨Ss, P, q, a, b, c, fun _ => al⟩, h.la, h.le, h.pl, h.ps⟩
  | true =>
    rw [if_pos rfl]
    dsimp only
    have hnm : nameS S.last = nameS (Ss.length + 1) := by rw [hla]
    rw [hnm] at hh ⊢
    obtain ⟨f, hf⟩ := has_read hh
    have e1 := sync_eq hf
    rcases act_cases D (setF ⟨nameS (Ss.length + 1), f.bs, f.bs.length⟩ D.files) with ⟨c1, d1⟩ | ⟨c1, d1⟩
    · rw [← e1] at c1 d1
      rw [if_pos c1]
      have g1 : Gd Ss P P.length (syncD D (nameS (Ss.length + 1))).1.files := by rw [d1]; exact a.synced hf
      have nn : findF newB (syncD D (nameS (Ss.length + 1))).1.files = none := by rw [d1, find_set, if_neg (show ¬ newB = nameS (Ss.length + 1) from fun e => name_new _ e.symm)]; exact al.nn
      exact ⟨⟨Ss, P, P.length, g1, b, c, fun _ => ⟨g1, nn, hla, al.le⟩⟩, h.la, h.le, h.pl, h.ps⟩
    · rw [← e1] at c1 d1
      rw [if_neg (by rw [c1]; decide)]
      exact h.stop (Nat.le_refl _) (fun h0 => by rw [show _ = 4 from c1] at h0; cases h0) rfl rfl rfl d1
theorem Gd.lastLen {Ss : List (List Bs)} {P : List Bs} {q : Nat} {F : List Fe} (h : Gd Ss P q F) : wholeL P ≤ usedD F := by
  rcases h.las with ⟨e, _⟩ | ⟨f, e1, e2, _⟩
  · rw [e]; exact Nat.zero_le _
  · have h1 : f.bs.length ≤ usedD F := by unfold usedD; exact le_sum (List.mem_map_of_mem (f := fun f : Fe => f.bs.length) (findF_mem e1).1)
    rw [e2, enc_len] at h1
    exact h1
/-- the power goes, and the disk is opened again -/
theorem Hp.reopen {m : Nat} {S : Sr} {D : Dk} (h : Hp m S D) {q k : Nat} (hB : Bd q k D) (hq : q ≤ 16777216) (keep : Int) (size : Nat) : (openP (crashD D keep) size).code = 0 ∧ Hp m (openP (crashD D keep) size).S (openP (crashD D keep) size).D := by
  obtain ⟨Ss, P, q0, a, b, c, d⟩ := h.st
  obtain ⟨j, j1, j2, o1, o2, o3, o4, o5, o6⟩ := open_plain a keep size
  have hw : wholeL (P.take j) ≤ wholeL P := by have := whole_take P j; omega
  have hu := a.lastLen
  have hqq := hB.f.q
  refine ⟨o1, ?_⟩
  rw [o2]
  have hl : (P.take j).length ≤ P.length := by rw [List.length_take]; omega
  refine ⟨⟨Ss, P.take j, j, o3, b, by omega, fun _ => ⟨o3, o5, rfl, rfl⟩⟩, by show Ss.length + 1 ≤ _; omega, by show wholeL (P.take j) ≤ _; omega, by show (Ss.flatten ++ P.take j).length ≤ _; rw [List.length_append]; omega, fun p hp => ?_⟩
  rcases List.mem_append.1 (show p ∈ Ss.flatten ++ P.take j from hp) with hp | hp
  · obtain ⟨s, hs, hp⟩ := List.mem_flatten.1 hp
    exact a.sh s hs p hp
  · exact a.ph p (List.mem_of_mem_take hp)
end Go.Proofs.YteamnhpplclmfaaGreatDoor
end
section
namespace Go.Proofs.YteamnhpplclmfaaGreatDoor
open Go.RowKit Go.Sx
set_option linter.unusedVariables false
theorem madeBig (w : World) {P : Program} {t e : TypeId} (ht : P.underlying t = some (.slice e)) (hi : (P.info? e).map (fun i => (i.zero, i.size, i.bytes)) = some (some (.int .u8 0), 1, 1)) (l c : Nat) (hlc : l ≤ c) (hc : c ≤ 140737488355330) :
    (Instr.makeSlice t (.int .i64 (l : Int)) (.int .i64 (c : Int))).run P w = .ok (.slice (some ⟨w.heap.size, 0, none⟩) l c) (w.alloc (.cells (List.replicate c (.int .u8 0)).toArray e)) := by
  obtain ⟨i, hi, hz, hs, hb⟩ := infoOf hi
  have h := run_make (P := P) w t e i _ ht hi hz .i64 .i64 (l : Int) (c : Int) (by omega) (by omega) (by rw [hb]; omega) (by omega)
  rw [hs] at h
  simp only [Int.toNat_natCast, Nat.mul_one] at h
  rw [h]
  congr 2
  simp only [madeCells]
  congr 1
  apply Array.ext
  · simp
  · intro i h1 h2
    simp [Value.cells, Nat.mod_one]
set_option maxRecDepth 100000 in
/-- a copy of bytes, with marks behind it -/
theorem copy_big (v : Value) (x : List UInt8) (hx : x.length ≤ 140737488355328) (w : World) (hv : Rd w v (Lib.byteCells x)) : Calls Tryz.prog 77 ([v] : List Value).toArray w fun e w' =>
    ∃ b c j, e = .returned (sv (some (b, c, marks ++ j)) x.length) ∧ Rw 1 x.length (some (b, c, marks ++ j)) (Lib.byteCells x) ∧ w.heap.size ≤ b ∧ w'.heap[b]? = some (.cells (Lib.byteCells x ++ (marks ++ j)).toArray 5 (0, 0)) ∧ Below w.heap.size w w' := by
  have hv0 := hv
  obtain ⟨va, vc, rfl, _⟩ := hv
  rw [Lib.byteCells_length] at hv0 ⊢
  refine (enter tab_ok Tryz.func77 rfl Tryz.ntmps77 rfl (St.start w) (R := fun v w' => ∃ b c j, v = sv (some (b, c, marks ++ j)) x.length ∧ Rw 1 x.length (some (b, c, marks ++ j)) (Lib.byteCells x) ∧ w.heap.size ≤ b ∧ w'.heap[b]? = some (.cells (Lib.byteCells x ++ (marks ++ j)).toArray 5 (0, 0)) ∧ Below w.heap.size w w') ?_).mono (fun e w' ⟨v, he, b, c, j, h1, h2⟩ => ⟨b, c, j, by rw [he, h1], h2⟩)
  refine .as ((x.length + 2 : Nat) : Int) (by simp) (by simp only [mn]; omega) (by simp only [mx]; omega) ?_
  refine .mk 0 (x.length + 2) _ _ (fun w => madeBig w und22 info5 0 (x.length + 2) (Nat.zero_le _) (by omega)) (fun b1 => ?_)
  refine ap (r := some (b1, x.length + 2, List.replicate (x.length + 2) (.int .u8 0))) (xs := []) (n := 0) (m := (Lib.byteCells x).length) (news := Lib.byteCells x) 0 tab_ok rfl info5 rfl rfl ⟨rfl, Nat.zero_le _, by unfold maxLen; omega, by simp⟩ (fun w' hs => (hv0.below hs.below).src und22 (one8 x)) (by rw [Lib.byteCells_length]; omega) (by rw [Lib.byteCells_length]; unfold maxLen; omega) (fun r1 hR1 => ?_)
  refine .mk _ _ (bs2 165 90) (fun b2 => ?_)
  refine ap 0 (news := marks) (m := 2) tab_ok rfl info5 rfl rfl hR1 (srcE (C := ⟨Tryz.prog, tab, 14, [], w, none⟩) (e' := 5) (tx := 22) (z := 1) rfl tab_ok (src 1 rfl rfl) rfl (by simp [marks, Value.oneCell'])) (by rw [Lib.byteCells_length]; omega) (by rw [Lib.byteCells_length]; unfold maxLen; omega) (fun r2 hR2 => ?_)
  rw [Lib.byteCells_length] at hR2
  rw [Lib.byteCells_length]
  cases r2 with
  | none => have := hR2.2; simp only at this; omega
  | some p =>
    obtain ⟨b, c, j⟩ := p
    obtain ⟨h1, h2, h3, h4⟩ := hR2
    refine slTo (by rintro a h; obtain rfl := Option.some.inj h; rfl) (by omega) h2 ?_
    refine ⟨fun w1 hs => ⟨b, c, j, rfl, ⟨by rw [Lib.byteCells_length]; omega, by omega, h3, by simpa using h4⟩, ?_, ?_, hs.below⟩⟩
    · rcases hs.own _ (List.mem_of_getElem? (i := 0) rfl) rfl rfl with h | h
      · exact h
      · simp at h
    · have := hs.nth (k := 0) rfl
      simpa using this
set_option maxRecDepth 100000 in
/-- a copy says what the bytes say, and its marks stand -/
theorem kept_big {va vb : Value} {b c : Nat} {j : List Value} {x : List UInt8} (hx : x.length ≤ 140737488355328) (hva : va = sv (some (b, c, marks ++ j)) x.length) (hR : Rw 1 x.length (some (b, c, marks ++ j)) (Lib.byteCells x)) (w : World) (ha : w.heap[b]? = some (.cells (Lib.byteCells x ++ (marks ++ j)).toArray 5 (0, 0))) (hb : Rd w vb (Lib.byteCells x)) :
    Calls Tryz.prog 30 ([va, vb] : List Value).toArray w fun e w' => e = .returned (.bool true) ∧ Below w.heap.size w w' := by
  subst hva
  have hb0 := hb
  obtain ⟨a2, c2, rfl, _⟩ := hb
  rw [Lib.byteCells_length] at hb0 ⊢
  obtain ⟨h1, h2, h3, h4⟩ := hR
  have hc : x.length + 2 ≤ c := by
    have : (Lib.byteCells x ++ (marks ++ j)).length = c * 1 := h4
    simp [marks, Lib.byteCells_length] at this; omega
  have e1 : ((ByteArray.mk x.toArray).toList == (ByteArray.mk x.toArray).toList) = true := by simp
  refine enterV tab_ok Tryz.func30 rfl Tryz.ntmps30 rfl (St.reads1 ha) ?_
  refine semV (fun w' hs => rd_str (l := x) (Rd.ent hs 0 (n := x.length) rfl (by rw [Lib.byteCells_length]) (by simp [Lib.byteCells_length]))) ?_
  refine semV (fun w' hs => rd_str (hb0.below hs.below)) ?_
  have e2 : ((!((ByteArray.mk x.toArray).toList == (ByteArray.mk x.toArray).toList)) == false) = true := by rw [e1]; rfl
  refine ct e2 ?_
  refine ct e2 ?_
  refine ct e2 ?_
  refine ct e2 ?_
  refine ct e2 ?_
  refine .as ((x.length + 2 : Nat) : Int) (by simp) (by simp only [mn]; omega) (by simp only [mx]; omega) ?_
  refine ct e2 ?_
  refine cf (by rw [e1]; rfl) ?_
  refine cf (decide_eq_false (by omega)) ?_
  refine .as ((x.length + 2 : Nat) : Int) (by simp) (by simp only [mn]; omega) (by simp only [mx]; omega) ?_
  refine ⟨.mk 0 (x.length + 2) c rfl rfl rfl (Nat.zero_le _) hc (Nat.le_refl _) (by simp) ?_⟩
  refine .on (by omega) ?_
  refine ⟨by omega, by omega, ?_⟩
  refine ld1 0 rfl (v := .int .u8 165) (by rw [nad_eq, nmu_eq]; simp [nad_eq, nmu_eq, marks, Lib.byteCells_length]) ?_
  refine ct rfl ?_
  refine ct rfl ?_
  refine ct rfl ?_
  refine ct rfl ?_
  refine .as ((x.length + 1 : Nat) : Int) (by simp) (by simp only [mn]; omega) (by simp only [mx]; omega) ?_
  refine ct rfl ?_
  refine ⟨by omega, by omega, ?_⟩
  refine ct rfl ?_
  refine ld1 0 rfl (v := .int .u8 90) (by rw [nad_eq, nmu_eq]; simp [nad_eq, nmu_eq, marks, Lib.byteCells_length]) ?_
  refine ct rfl ?_
  refine ct rfl ?_
  exact rt rfl


section
variable {N : Nat} {M : Bks} {B : World} {F : Option Nat} {L : List Ent} {next : Value → List Ent → Prop}
set_option maxRecDepth 100000 in
/-- bytes of one's own are written over -/
theorem over_big (k : Nat) {r : Sx.Own} {x : List UInt8} (hk : L[k]? = some (se r (Lib.byteCells x) 5)) (hR : Rw 1 x.length r (Lib.byteCells x)) (hx : x.length ≤ 140737488355328) (go : next (.tuple #[]) (L.set k dead)) :
    CallP ⟨Tryz.prog, tab, N, M, B, F⟩ 31 [sv r x.length] L next := by
  have hkl : k < L.length := (List.getElem?_eq_some_iff.1 hk).1
  cases r with
  | none =>
    have h0 : x.length = 0 := hR.2
    rw [h0]
    refine inl (C := ⟨Tryz.prog, tab, N, M, B, F⟩) tab_ok Tryz.func31 rfl Tryz.ntmps31 rfl ?_
    refine lp tab_ok (fun x : Unit => True) (fun _ => ⟨[(0, .slice none 0 0), (3, .slice none 0 0), (4, .int .i64 0), (5, .int .i64 0)], L, []⟩) (fun _ => 0) () trivial ⟨⟨rfl, rfl, rfl, rfl, trivial⟩, Sub.refl L, rfl⟩ ?_
    intro _ _
    refine cf rfl ?_
    rw [show L.set k dead = L from set_same hk] at go
    exact bk go
  | some p =>
    obtain ⟨b, c, j⟩ := p
    refine inl (C := ⟨Tryz.prog, tab, N, M, B, F⟩) tab_ok Tryz.func31 rfl Tryz.ntmps31 rfl ?_
    refine lp tab_ok (fun i : Nat => i ≤ x.length) (fun i => ⟨[(0, .slice (some ⟨b, 0, none⟩) x.length c), (4, .int .i64 x.length), (5, .int .i64 i)], L.set k (cl b (overL x i ++ j).toArray 5), []⟩) (fun i => x.length - i) 0 (Nat.zero_le _)
      ⟨⟨rfl, rfl, rfl, trivial⟩, ?_, rfl⟩ ?_
    · have e1 : overL x 0 = Lib.byteCells x := by simp [overL, Lib.byteCells]
      rw [e1]
      have := set_same hk
      rw [show cl b (Lib.byteCells x ++ j).toArray 5 = se (some (b, c, j)) (Lib.byteCells x) 5 from rfl, this]
      exact Sub.refl L
    intro i hi
    have hat : (L.set k (cl b (overL x i ++ j).toArray 5))[k]? = some (cl b (overL x i ++ j).toArray 5) := by simp [hkl]
    refine cd (fun h => ?_) (fun h => ?_)
    · have hlt : i < x.length := by omega
      refine ⟨by omega, by omega, ?_⟩
      have eo : nad 0 (nmu ((i : Nat) : Int).toNat 1) = i := by rw [nad_eq, nmu_eq]; simp
      refine ld1 k hat (v := .int .u8 (x[i].toNat : Nat)) (by rw [eo]; exact over_get x i hlt j) ?_
      refine ⟨by omega, by omega, ?_⟩
      refine s1 k hat (by rw [eo]; simp [overL_len]; omega) ?_
      refine .as ((i + 1 : Nat) : Int) (by simp) (by simp only [mn]; omega) (by simp only [mx]; omega) ?_
      refine ⟨i + 1, by omega, by omega, ⟨⟨rfl, rfl, rfl, trivial⟩, ?_, rfl⟩⟩
      rw [eo, xor255, List.set_set, over_set x i hlt j]
      exact Sub.refl _
    · refine bkS ?_ go
      have : L.set k dead = (L.set k (cl b (overL x i ++ j).toArray 5)).set k dead := by rw [List.set_set]
      rw [this]
      exact sub_dead k
end
/-- rows of one's own, each with what it says -/
abbrev Rws := List (Sx.Own × Bs)
def rowsE (l : Rws) : List Ent := l.map fun x => se x.1 (Lib.byteCells x.2) 5
def rowsV (l : Rws) : List Value := l.map fun x => sv x.1 x.2.length
/-- copies, with the marks -/
def RowsOk (l : Rws) : Prop := ∀ x ∈ l, Rw 1 x.2.length x.1 (Lib.byteCells x.2) ∧ ∃ b c j, x.1 = some (b, c, marks ++ j)
theorem rows_A {l : Rws} : ∀ b, (rs (mres (rowsE l))).A b → (rs (mres (rowsE l))).W b := fun b hb => by
  obtain ⟨e, he, hb2⟩ := (mresA _ _).1 hb
  obtain ⟨x, hx, rfl⟩ := List.mem_map.1 he
  refine (mresW _ _).2 ⟨_, he, ?_⟩
  exact Classical.byContradiction fun h => se_A (p := fun _ => False) b hb2 h
theorem add_row {M : Bks} {B w : World} {L : List Ent} (h : St M B w L) {k j : Nat} {es : List Ent} {e : Ent} (hk : L[k]? = some (rs (mres es))) (hj : L[j]? = some e) (hkj : k ≠ j) : St M B w ((L.set j dead).set k (rs (mres (es ++ [e])))) := by
  have hp := h.res hk
  have ha := (mres_apart e es).1 (pw_ne h.apart hj hk (fun q => hkj q.symm))
  refine St.merge h hk hj hkj ((rsOk _ _).2 ⟨fun f hf => ?_, ?_⟩) (fun b hb => ?_) (fun b hb => ?_)
  · rcases List.mem_append.1 hf with hf | hf
    · exact hp.1 f hf
    · obtain rfl := List.mem_singleton.1 hf; exact h.ok _ (List.mem_of_getElem? hj)
  · refine List.pairwise_append.2 ⟨hp.2, by simp, fun f hf g hg => ?_⟩
    obtain rfl := List.mem_singleton.1 hg
    exact (ha f hf).symm
  · obtain ⟨f, hf, hb2⟩ := (mresW _ _).1 hb
    rcases List.mem_append.1 hf with hf | hf
    · exact .inl ((mresW _ _).2 ⟨f, hf, hb2⟩)
    · obtain rfl := List.mem_singleton.1 hf; exact .inr hb2
  · obtain ⟨f, hf, hb2⟩ := (mresA _ _).1 hb
    rcases List.mem_append.1 hf with hf | hf
    · exact .inl ((mresA _ _).2 ⟨f, hf, hb2⟩)
    · obtain rfl := List.mem_singleton.1 hf; exact .inr hb2
theorem RowsOk.snoc {l : Rws} (h : RowsOk l) {b c : Nat} {j : List Value} {p : Bs} (hR : Rw 1 p.length (some (b, c, marks ++ j)) (Lib.byteCells p)) : RowsOk (l ++ [(some (b, c, marks ++ j), p)]) := fun x hx => by
  rcases List.mem_append.1 hx with hx | hx
  · exact h x hx
  · obtain rfl := List.mem_singleton.1 hx; exact ⟨hR, b, c, j, rfl⟩
structure Cp where
  r : Sx.Own
  l : Rws
structure CpOk (ps : List Bs) (i : Nat) (y : Cp) : Prop where
  m : y.l.map (·.2) = ps.take i
  ok : RowsOk y.l
  row : Rw 1 i y.r (rowsV y.l)
set_option maxRecDepth 100000 in
set_option maxHeartbeats 2000000 in
theorem copies_any {a : Option Addr} {c : Nat} {us : List Value} {ps : List Bs} {w : World} (hI : PayIn w a c us ps) (hn : ps.length ≤ 100) (hb : ∀ p ∈ ps, p.length ≤ 140737488355328) :
    Calls Tryz.prog 28 ([.slice a ps.length c] : List Value).toArray w fun e w' => ∃ y : Cp, CpOk ps ps.length y ∧ e = .returned (sv y.r ps.length) ∧ St [] w w' [se y.r (rowsV y.l) TB, rs (mres (rowsE y.l))] := by
  have hs0 : St [] w w [rs (mres (rowsE []))] := St.from w [] _ (fun e he => by obtain rfl : e = rs (mres (rowsE [])) := (by simpa using he); exact ⟨(rsOk _ _).2 ⟨fun f hf => (by cases hf), .nil⟩, fun k hk => by obtain ⟨f, hf, _⟩ := (mresW _ _).1 hk; cases hf⟩) (by simp)
  refine (enter tab_ok Tryz.func28 rfl Tryz.ntmps28 rfl hs0 (R := fun v w' => ∃ y : Cp, CpOk ps ps.length y ∧ v = sv y.r ps.length ∧ St [] w w' [se y.r (rowsV y.l) TB, rs (mres (rowsE y.l))]) ?_).mono (fun e w' ⟨v, he, y, h1, h2, h3⟩ => ⟨y, h1, by rw [he, h2], h3⟩)
  refine .mk _ _ bsRow0 (fun bx => ?_)
  refine lp tab_ok (fun y : Nat × Cp => y.1 ≤ ps.length ∧ CpOk ps y.1 y.2) (fun y => ⟨[(3, sv y.2.r y.1), (7, .slice a ps.length c), (8, .int .i64 ps.length), (9, .int .i64 y.1)], [rs (mres (rowsE y.2.l)), se y.2.r (rowsV y.2.l) TB], []⟩) (fun y => ps.length - y.1)
    (0, ⟨some (bx, 0, []), []⟩) ⟨Nat.zero_le _, rfl, fun x hx => (by cases hx), rfl, Nat.le_refl _, by unfold maxLen; omega, rfl⟩ ⟨⟨rfl, rfl, rfl, rfl, trivial⟩, Sub.refl _, rfl⟩ ?_
  rintro ⟨i, r, l⟩ ⟨hi, hm, hok, hrow⟩
  dsimp only at hi hm hok hrow ⊢
  refine cd (fun h => ?_) (fun h => ?_)
  · have hlt : i < ps.length := by omega
    have hne : us ≠ [] := fun e => by have := hI.pls.len; rw [e] at this; simp at this; omega
    obtain ⟨pb, po, rfl⟩ := hI.row.addr hne
    obtain ⟨qa, qc, hpv⟩ := hI.pls.at (i := i) (p := ps[i]) (by simp [hlt])
    have hel := hI.el i _ ps[i] hpv (by simp [hlt])
    have hp6 := hb _ (List.getElem_mem hlt)
    have htk : ps.take (i + 1) = ps.take i ++ [ps[i]] := List.take_succ_eq_append_getElem hlt
    generalize ps[i] = p at hpv hel hp6 htk
    refine ⟨by omega, by omega, ?_⟩
    refine ldo (hI.row.at hpv rfl) (hI.row.lt0 hne) ?_
    refine cvC (x := p) (fun w1 hs => copy_big _ p hp6 w1 (hel.below hs.below)) (fun b2 c2 j2 hR2 => ?_)
    obtain ⟨a2, c3, hv2⟩ := sv_sl hR2
    rw [hv2]
    refine .mk _ _ (bsS1 _ _ _) (fun bz => ?_)
    refine biImpW (next' := fun v L' => ∃ r', Rw 1 (i + 1) r' (rowsV l ++ [.slice a2 p.length c3]) ∧ v = sv r' (i + 1) ∧ L' = [rs (mres (rowsE l)), se r' (rowsV l ++ [.slice a2 p.length c3]) TB, se (some (b2, c2, marks ++ j2)) (Lib.byteCells p) 5, cl bz #[.slice a2 p.length c3] TB])
      (ap1 1 3 tab_ok rfl infoS rfl rfl hrow rfl rfl (by omega) (by unfold maxLen; omega) (fun r' hr' => ⟨r', hr', rfl, rfl⟩)) ?_
    rintro w2 v L' hs2 ⟨r', hr', rfl, rfl⟩
    refine ⟨_, add_row hs2 (k := 0) (j := 2) rfl rfl (by decide), ?_⟩
    refine .as ((i + 1 : Nat) : Int) (by omega) (by simp only [mn]; omega) (by simp only [mx]; omega) ?_
    have eV : rowsV (l ++ [(some (b2, c2, marks ++ j2), p)]) = rowsV l ++ [.slice a2 p.length c3] := by unfold rowsV; rw [List.map_append, ← hv2]; rfl
    have eE : rowsE (l ++ [(some (b2, c2, marks ++ j2), p)]) = rowsE l ++ [se (some (b2, c2, marks ++ j2)) (Lib.byteCells p) 5] := by unfold rowsE; rw [List.map_append]; rfl
    refine ⟨(i + 1, ⟨r', l ++ [(some (b2, c2, marks ++ j2), p)]⟩), ⟨hlt, ⟨by rw [List.map_append, hm, htk]; rfl, hok.snoc hR2, by rw [eV]; exact hr'⟩⟩, by dsimp only; omega, ⟨⟨rfl, rfl, rfl, rfl, trivial⟩, ?_, rfl⟩⟩
    dsimp only
    rw [eV, eE]
    exact .cons (.cons .nil)
  · obtain rfl : i = ps.length := by omega
    exact ⟨fun w1 hs => ⟨⟨r, l⟩, ⟨hm, hok, hrow⟩, rfl, hs.perm (.swap _ _ _)⟩⟩
end Go.Proofs.YteamnhpplclmfaaGreatDoor
end
section
namespace Go.Proofs.YteamnhpplclmfaaGreatDoor
open Go.RowKit Go.Sx
set_option linter.unusedVariables false
theorem refO_Q {rr0 : Nat → Prop} {w w' : World} {D' : Dk} {S' : Sr} {e : Ending} (h : RefO rr0 w D' S' 0 e w') : RefQ rr0 w D' S' 0 e w' := by
  obtain ⟨x, hok, hM, hS, he, hs⟩ := h
  obtain ⟨va, vc, hva⟩ := sv_sl hok.row
  have hm : (mP x.rr x.fa x.ps).p w' := hs.res (k := 0) rfl
  have hb : (bgR x.rp x.vs x.S.pl).p w' := hs.res (k := 2) rfl
  have hr := own_rdb hs 1 rfl hok.row
  rw [hva] at hr
  refine ⟨⟨x.M, x.fa, x.fc, x.ps, va, vc, x.vs, x.S, fun j => x.rr j ∨ rowB x.r j ∨ x.rp j⟩, ⟨hok.fs, hok.sh, hok.pls⟩, hM, hS rfl, ?_, hs.below, ⟨⟨mP_mono (fun j hj => .inl hj) (fun j hj => ?_) hm, hr.mono fun j hj => .inr (.inl hj)⟩, fun i v p hv hp => (hb.1 i v p hv hp).mono fun j hj => .inr (.inr hj)⟩, fun j hj => ?_⟩
  · rw [he]; unfold rvS ryC; dsimp only; rw [hva]
  · rcases hj with hj | hj | hj
    · exact hm.2 j hj
    · exact hs.ltA (List.mem_of_getElem? (show _[1]? = some (se x.r x.vs TB) from rfl)) (se_own hj)
    · exact hb.2 j hj
  · rcases hj with hj | hj | hj
    · exact hok.rr j hj
    · exact .inr (own_new hs 1 rfl j hj)
    · rcases hs.ownW _ (List.mem_of_getElem? (show _[2]? = some (rs (bgR x.rp x.vs x.S.pl)) from rfl)) j ((rsW _ _).2 hj) with h4 | ⟨_, h4, _⟩
      · exact .inr h4
      · cases h4
theorem rsyncS_pl (x : Sd) : (rsyncS x).1.S.pl = x.S.pl := by
  unfold rsyncS
  split
  · rfl
  split
  · rfl
  split
  · split <;> rfl
  · rfl
theorem rsyncQ {y : Ry} (hok : RyOk y) {q k : Nat} (hB : Rb q k y.M) (hk : k ≤ 300000) (hl : y.S.last ≤ 1000000000) (w : World) (h : (ryR y).p w) :
    Calls Tryz.prog 32 ([.agg (ryC y)] : List Value).toArray w (RefQ y.rr w (rsyncS ⟨y.S, y.M⟩).1.D (rsyncS ⟨y.S, y.M⟩).1.S (rsyncS ⟨y.S, y.M⟩).2) := by
  have hfl := hB.fl
  have hst := hB.st
  refine (rsyncS_any y.M (.slice y.fa y.ps.length y.fc) y.S y.va y.vc y.rr (by omega) (by omega) hB.lf hl w (hok.rfs h) (ryR_lt h)).mono fun e w' ⟨fv', rr', he, hb, hf, hr⟩ => ?_
  have hpl := rsyncS_pl ⟨y.S, y.M⟩
  obtain ⟨ps', fa', fc', h1, rfl, h2, h3⟩ := rfs_mP hf
  generalize rsyncS ⟨y.S, y.M⟩ = z at he hf hpl h1 ⊢
  obtain ⟨⟨zS, zD⟩, zc⟩ := z
  dsimp only at he hf hpl h1 ⊢
  have hp := ry_same hb h
  refine ⟨⟨zD, fa', fc', ps', y.va, y.vc, y.vs, zS, fun j => y.rr j ∨ (rr' j ∧ j < w'.heap.size)⟩, ⟨h1, h2, by show Pls y.vs zS.pl; rw [hpl]; exact hok.pls⟩, rfl, rfl, ?_, hb, ⟨⟨mP_mono (fun j hj => .inr hj) (fun j hj => hj.elim (ryR_lt hp j) (·.2)) h3, ?_⟩, fun i v p hv hq => ?_⟩, fun j hj => hj.elim .inl fun hj => hr j hj.1⟩
  · rw [he]; unfold ryC; dsimp only; rw [hpl]
  · have := hp.1.2.mono (rr' := fun j => y.rr j ∨ (rr' j ∧ j < w'.heap.size)) (fun j hj => .inl hj)
    dsimp only at this ⊢
    rw [hpl]; exact this
  · have hq' : y.S.pl[i]? = some p := by rw [← show zS.pl = y.S.pl from hpl]; exact hq
    exact (hp.2 i v p hv hq').mono fun j hj => .inl hj
section
variable {C : Cx} {L : List Ent}
/-- the power goes and comes, in a reference's store -/
theorem cRc (k : Nat) {g : FuncId} {vs : List Value} {M' : Dk} {y : Ry} {next : Value → List Ent → Prop} (hok : RyOk y) (hk : L[k]? = some (rs (ryR y)))
    (h : ∀ w, St C.M C.B w L → Calls C.P g vs.toArray w fun e w' => ∃ (fv' : Value) (rr' : Nat → Prop), e = .returned (.agg (rdC M' fv')) ∧ Below w.heap.size w w' ∧ RFs rr' w' fv' M'.files ∧ (∀ k, rr' k → y.rr k ∨ w.heap.size ≤ k))
    (go : ∀ F : Fl, F.M = M' → RyOk (y.on F) → next (.agg (rdC M' (.slice F.fa F.ps.length F.fc))) (L.set k (rs (ryR (y.on F))))) : CallP C g vs L next := by
  refine ⟨fun w hs => (h w hs).mono fun e w' ⟨fv', rr', he, hb, hf, hr⟩ => ?_⟩
  obtain ⟨ps', fa', fc', h1, rfl, h2, h3⟩ := rfs_mP hf
  have hp := hs.res hk
  have hp' : (ryR y).p w' := (ryR y).st w w' (fun j hj => hb.block j ((ryR y).bd w hp j hj)) hp
  have hl : ∀ j, (y.rr j ∨ (rr' j ∧ j < w'.heap.size)) → j < w'.heap.size := fun j hj => hj.elim (ryR_lt hp' j) (·.2)
  refine ⟨_, _, he, St.place (hs.push hb ?_ (fun k hk => by simp [ryR] at hk) (fun j hj => ?_)) k, go ⟨M', fa', fc', ps', fun j => y.rr j ∨ (rr' j ∧ j < w'.heap.size)⟩ rfl ⟨h1, h2, hok.pls⟩⟩
  · rw [rsOk]
    exact ⟨⟨mP_mono (fun j hj => .inr hj) hl h3, hp'.1.2.mono fun j hj => .inl hj⟩, fun i v p hv hq => (hp'.2 i v p hv hq).mono fun j hj => .inl hj⟩
  · have h2 : y.rr j ∨ (rr' j ∧ j < w'.heap.size) := by simpa [ryR, Ry.on] using hj
    rcases h2 with h2 | h2
    · exact .inr ⟨_, List.mem_of_getElem? hk, (rsA _ _).2 (.inr h2), by simp [ryR]⟩
    · rcases hr j h2.1 with h4 | h4
      · exact .inr ⟨_, List.mem_of_getElem? hk, (rsA _ _).2 (.inr h4), by simp [ryR]⟩
      · exact .inl h4
theorem CallP.fromL {L' : List Ent} {g : FuncId} {vs : List Value} {next : Value → List Ent → Prop} (h : ∀ w, St C.M C.B w L → St C.M C.B w L') (hc : CallP C g vs L' next) : CallP C g vs L next := ⟨fun w hs => hc.go w (h w hs)⟩
end
/-- the first row is taken out -/
theorem rows_out {M : Bks} {B w : World} {X : List Ent} {x : Sx.Own × Bs} {l : Rws} (h : St M B w (X ++ [rs (mres (rowsE (x :: l)))])) : St M B w (X ++ [se x.1 (Lib.byteCells x.2) 5, rs (mres (rowsE l))]) := by
  have h1 : St M B w (X ++ rowsE (x :: l) ++ []) := St.unpack (X := X) (Y := []) (by simpa using h)
  have h2 : St M B w ((X ++ [se x.1 (Lib.byteCells x.2) 5]) ++ rowsE l ++ []) := by
    have e : X ++ rowsE (x :: l) ++ [] = (X ++ [se x.1 (Lib.byteCells x.2) 5]) ++ rowsE l ++ [] := by simp [rowsE]
    rw [← e]; exact h1
  have h3 := St.pack (X := X ++ [se x.1 (Lib.byteCells x.2) 5]) (Y := []) h2
  simpa using h3
end Go.Proofs.YteamnhpplclmfaaGreatDoor
end
section
namespace Go.Proofs.YteamnhpplclmfaaGreatDoor
open Go.RowKit Go.Sx
set_option linter.unusedVariables false
/-- a store is let go: its disk stays -/
theorem St.unst {M : Bks} {B w : World} {T : StS} {R : List Ent} (h : St M B w (rs (stR T) :: R)) : St M B w (rs (dkR T.k) :: rs laidR :: R) := by
  have h1 : St M B w ([] ++ stEs T ++ R) := St.unpack (X := []) (Y := R) h
  have h2 : Sub (rs (dkR T.k) :: rs laidR :: R) ([] ++ stEs T ++ R) := .drop (.cons (.cons (.drop (.drop (Sub.refl R)))))
  exact h1.sub h2
/-- a disk is opened: the call, the known things named otherwise -/
theorem cOpen2 {N : Nat} {M : Bks} {B : World} {F : Option Nat} {L : List Ent} {K : DkS} {size : Nat} (rest : List Ent) {next : Value → List Ent → Prop} (hL : ∀ w, St M B w L → St M B w (rs (dkR K) :: rs laidR :: rest)) (h1 : 64 ≤ size) (h2 : size ≤ 1048576) (hgone : K.D.gone = false) {q k : Nat} (hB : Bd q k K.D) (hk : k ≤ 299999) (hq : q ≤ 16777216)
    (go0 : (openP K.D size).code = 0 → ∀ T : StS, T.S = (openP K.D size).S → T.k.D = (openP K.D size).D → T.k.bd = K.bd → StOk T → next (.tuple #[ptr T.bs, .nilIface]) (rs (stR T) :: rest))
    (go1 : (openP K.D size).code ≠ 0 → ∀ K' : DkS, K'.D = (openP K.D size).D → K'.bd = K.bd → next (.tuple #[.pointer none, errV (openP K.D size).code]) (rs (dkR K') :: rs laidR :: rest)) :
    CallP ⟨Tryz.prog, tab, N, M, B, F⟩ 19 [ptr K.bd, .int .i64 size] L next :=
  ⟨fun w hs => (cOpen (N := N) (F := F) (M := M) (B := B) (L := rs (dkR K) :: rs laidR :: rest) rest (.refl _) h1 h2 hgone hB hk hq go0 go1).go w (hL w hs)⟩
theorem PayIn.sub {w : World} {a a' : Option Addr} {c c' : Nat} {vs : List Value} {ps : List Bs} (h : PayIn w a c vs ps) (i m : Nat) (him : i + m ≤ ps.length) (hc : m ≤ c') (hr : Rd w (.slice a' m c') ((vs.drop i).take m)) : PayIn w a' c' ((vs.drop i).take m) ((ps.drop i).take m) := by
  have hl : ((ps.drop i).take m).length = m := by rw [List.length_take, List.length_drop]; omega
  have hget : ∀ {α : Type} (l : List α) (j : Nat) (u : α), ((l.drop i).take m)[j]? = some u → l[i + j]? = some u := fun l j u hu => by
    rw [List.getElem?_take] at hu
    split at hu
    · rw [List.getElem?_drop] at hu; exact hu
    · cases hu
  refine ⟨by rw [hl]; exact hr, ⟨by rw [hl, List.length_take, List.length_drop, h.pls.len]; omega, fun j v p hv hp => h.pls.sh (i + j) v p (hget _ _ _ hv) (hget _ _ _ hp)⟩, fun j v p hv hp => h.el (i + j) v p (hget _ _ _ hv) (hget _ _ _ hp), fun p hp => h.mx p (List.mem_of_mem_drop (List.mem_of_mem_take hp)), by rw [hl]; exact hc⟩
/-- the power goes and comes, where a store holds the disk -/
theorem cCrash {C : Cx} {L : List Ent} (hP : C.P = Tryz.prog) (k : Nat) {T : StS} {keep : Int} (hkeep : -9223372036854775808 ≤ keep ∧ keep ≤ 9223372036854775807) {next : Value → List Ent → Prop} (hk : L[k]? = some (rs (stR T))) (go : ∀ K' : DkS, K'.D = crashD T.k.D keep → K'.bd = T.k.bd → next (.tuple #[]) (L.set k (rs (stR { T with k := K' })))) :
    CallP C 34 [ptr T.k.bd, .int .i64 keep] L next := by
  refine cTk (α := DkS) (Φ := fun K' => K'.D = crashD T.k.D keep) (v := fun _ => .tuple #[]) (K' := id) k hk (fun w h => ?_) (fun K' h1 h2 => go K' h1 h2)
  rw [hP]
  exact (crash_any T.k keep hkeep w h).mono fun e w' ⟨S', ⟨h1, h2, h3⟩, h4, h5⟩ => ⟨S', h1, h2, h4, h5⟩
end Go.Proofs.YteamnhpplclmfaaGreatDoor
end
section
namespace Go.Proofs.YteamnhpplclmfaaGreatDoor
open Go.RowKit Go.Sx
set_option linter.unusedVariables false
theorem rise_nil : Rise [] := .nil
theorem errV2 : errV 2 = ErrN 2 := errVs 2 (by decide)
end Go.Proofs.YteamnhpplclmfaaGreatDoor
end
section
namespace Go.Proofs.YteamnhpplclmfaaGreatDoor
open Go.RowKit Go.Sx
set_option linter.unusedVariables false
end Go.Proofs.YteamnhpplclmfaaGreatDoor
end
section
namespace Go.Proofs.YteamnhpplclmfaaGreatDoor
open Go.RowKit Go.Sx
set_option linter.unusedVariables false
abbrev TOp8 : Nat := 65
abbrev TOps8 : Nat := 50
/-- an act -/
structure Op8 where
  kind : Int
  n : Int
  a : Option Addr
  c : Nat
  vs : List Value
  ps : List Bs
instance : Inhabited Op8 := ⟨⟨0, 0, none, 0, [], []⟩⟩
def Op8.cs (q : Op8) : Array Value := #[.int .i64 q.kind, .int .i64 q.n, .slice q.a q.ps.length q.c]
/-- an act that lies at a place -/
structure Act8 (w : World) (a : Option Addr) (i : Nat) (q : Op8) : Prop where
  at' : ∃ b o, a = some ⟨b, o, none⟩ ∧ b < w.heap.size ∧ ∀ j u, q.cs[j]? = some u → w.cell? ⟨b, o + i * 3 + j, none⟩ = some u
  hI : PayIn w q.a q.c q.vs q.ps
  pm : q.ps.length ≤ maxLen
/-- a script -/
def Scr8 (w : World) (v : Value) (n : Nat) (O : Nat → Op8) : Prop := n ≤ maxLen ∧ ∃ a c, v = .slice a n c ∧ ∀ i, i < n → Act8 w a i (O i)
theorem Act8.below {w w' : World} {a : Option Addr} {i : Nat} {q : Op8} (hb : Below w.heap.size w w') (h : Act8 w a i q) : Act8 w' a i q := by
  obtain ⟨⟨b, o, e, hl, hc⟩, h2, h3⟩ := h
  exact ⟨⟨b, o, e, Nat.lt_of_lt_of_le hl hb.size, fun j u hu => (hb.cell (p := ⟨b, o + i * 3 + j, none⟩) hl).trans (hc j u hu)⟩, ⟨h2.row.below hb, h2.pls, fun i v q hv hq => (h2.el i v q hv hq).below hb, h2.mx, h2.cap⟩, h3⟩
def Sm8 (O : Nat → Op8) (n : Nat) : Prop := n ≤ 41 ∧ ∀ i, i < n → (O i).ps.length ≤ 8 ∧ ∀ p ∈ (O i).ps, ¬ (300 < p.length ∧ p.length ≤ 65536)
set_option maxRecDepth 100000 in
set_option maxHeartbeats 4000000 in
theorem large8_any (v : Value) (n : Nat) (O : Nat → Op8) (b : Bool) (hb : b = true ↔ ¬ Sm8 O n) (w : World) (hS : Scr8 w v n O) : Calls Tryz.prog 25 ([v] : List Value).toArray w fun e w' => e = .returned (.bool b) ∧ Below w.heap.size w w' := by
  obtain ⟨hn, a, c, rfl, hS⟩ := hS
  have hmx : maxLen ≤ 9223372036854775807 := by decide
  refine enterV tab_ok Tryz.func25 rfl Tryz.ntmps25 rfl (St.start w) ?_
  refine lp tab_ok (fun i : Nat => i ≤ n ∧ Sm8 O i) (fun i => ⟨[(7, .slice a n c), (8, .int .i64 n), (9, .int .i64 i)], [], []⟩) (fun i => n - i) 0 ⟨Nat.zero_le _, Nat.zero_le _, fun i hi => by omega⟩ ⟨⟨rfl, rfl, rfl, trivial⟩, .nil, rfl⟩ ?_
  rintro i ⟨hi, hsm⟩
  refine cd (fun h => ?_) (fun h => ?_)
  · have hil : i < n := by omega
    have hact := hS i hil
    have hyes : ¬ Sm8 O n → b = true := fun h => hb.2 h
    obtain ⟨q, hq⟩ : ∃ q, q = O i := ⟨_, rfl⟩
    rw [← hq] at hact
    obtain ⟨⟨bo, off, rfl, hbl, hc⟩, hI, hpm⟩ := hact
    refine ⟨by omega, by omega, ?_⟩
    refine ldoN (d := #[.int .i64 q.kind, .int .i64 q.n, .slice q.a q.ps.length q.c]) (fun j u hu => by rw [nad_eq, nmu_eq, Int.toNat_natCast]; exact hc j u hu) hbl rfl ?_
    intro b4
    refine sN 0 rfl rfl rfl ?_ (by kernel_rfl)
    by_cases h40 : 40 < i
    · have e1 : decide ((i : Int) > 40) = true := decide_eq_true (by omega)
      have e2 : (decide ((i : Int) > 40) == false) = false := by rw [e1]; rfl
      iterate 4 refine cf e2 ?_
      refine ct e1 ?_
      refine ct rfl ?_
      exact rt (congrArg Value.bool (hyes fun h => by have := h.1; omega).symm)
    have e1 : decide ((i : Int) > 40) = false := decide_eq_false (by omega)
    have e2 : (decide ((i : Int) > 40) == false) = true := by rw [e1]; rfl
    iterate 2 refine ct e2 ?_
    refine ld1 0 rfl (v := .slice q.a q.ps.length q.c) rfl ?_
    iterate 2 refine ct e2 ?_
    refine cf e1 ?_
    by_cases h8 : 8 < q.ps.length
    · refine ct (decide_eq_true (by omega)) ?_
      exact rt (congrArg Value.bool (hyes fun h => by have := (h.2 i hil).1; rw [← hq] at this; omega).symm)
    refine cf (decide_eq_false (by omega)) ?_
    refine ld1 0 rfl (v := .slice q.a q.ps.length q.c) rfl ?_
    refine lp tab_ok (fun j : Nat => j ≤ q.ps.length ∧ ∀ k (hk : k < q.ps.length), k < j → ¬ (300 < q.ps[k].length ∧ q.ps[k].length ≤ 65536)) (fun j => ⟨[(7, .slice (some ⟨bo, off, none⟩) n c), (8, .int .i64 n), (9, .int .i64 i), (23, .slice q.a q.ps.length q.c), (24, .int .i64 q.ps.length), (25, .int .i64 j)], [], []⟩) (fun j => q.ps.length - j) 0 ⟨Nat.zero_le _, fun k hk h => by cases h⟩ ⟨⟨rfl, rfl, rfl, rfl, rfl, rfl, trivial⟩, .drop .nil, rfl⟩ ?_
    rintro j ⟨hj, hsj⟩
    refine cd (fun h => ?_) (fun h => ?_)
    · have hlt : j < q.ps.length := by omega
      have hne : q.vs ≠ [] := fun e => by have := hI.pls.len; rw [e] at this; simp at this; omega
      obtain ⟨pb, po, hqa⟩ := hI.row.addr hne
      obtain ⟨pa, pc, hpv⟩ := hI.pls.at (i := j) (p := q.ps[j]) (by simp [hlt])
      have hrow := hI.row
      rw [hqa] at hrow ⊢
      have hml := hI.mx _ (List.getElem_mem hlt)
      refine ⟨by omega, by omega, ?_⟩
      refine ldo (hrow.at hpv rfl) (hrow.lt0 hne) ?_
      have next : ¬ (300 < q.ps[j].length ∧ q.ps[j].length ≤ 65536) → ∀ k (hk : k < q.ps.length), k < j + 1 → ¬ (300 < q.ps[k].length ∧ q.ps[k].length ≤ 65536) := fun h0 k hk hkj => by
        by_cases e : k = j
        · subst e; exact h0
        · exact hsj k hk (by omega)
      by_cases h3 : 300 < q.ps[j].length
      · have e3 : decide ((q.ps[j].length : Int) > 300) = true := decide_eq_true (by omega)
        have e4 : (decide ((q.ps[j].length : Int) > 300) == true) = true := by rw [e3]; rfl
        iterate 3 refine ct e4 ?_
        refine ct e3 ?_
        by_cases h6 : q.ps[j].length ≤ 65536
        · refine ct (decide_eq_true (by omega)) ?_
          exact rt (congrArg Value.bool (hyes fun h => by have := (h.2 i hil).2 q.ps[j] (by rw [← hq]; exact List.getElem_mem hlt); omega).symm)
        · refine cf (decide_eq_false (by omega)) ?_
          refine .as ((j + 1 : Nat) : Int) (by omega) (by simp only [mn]; omega) (by simp only [mx]; omega) ?_
          exact ⟨j + 1, ⟨hlt, next (by omega)⟩, by omega, ⟨⟨rfl, rfl, rfl, rfl, rfl, rfl, trivial⟩, .nil, rfl⟩⟩
      · have e3 : decide ((q.ps[j].length : Int) > 300) = false := decide_eq_false (by omega)
        have e4 : (decide ((q.ps[j].length : Int) > 300) == true) = false := by rw [e3]; rfl
        iterate 3 refine cf e4 ?_
        refine cf e3 ?_
        refine cf rfl ?_
        refine .as ((j + 1 : Nat) : Int) (by omega) (by simp only [mn]; omega) (by simp only [mx]; omega) ?_
        exact ⟨j + 1, ⟨hlt, next (by omega)⟩, by omega, ⟨⟨rfl, rfl, rfl, rfl, rfl, rfl, trivial⟩, .nil, rfl⟩⟩
    · obtain rfl : j = q.ps.length := by omega
      refine .as ((i + 1 : Nat) : Int) (by omega) (by simp only [mn]; omega) (by simp only [mx]; omega) ?_
      refine ⟨i + 1, ⟨hil, by omega, fun k hk => ?_⟩, by omega, ⟨⟨rfl, rfl, rfl, trivial⟩, .nil, rfl⟩⟩
      by_cases e : k = i
      · subst e
        rw [← hq]
        refine ⟨by omega, fun p hp => ?_⟩
        obtain ⟨k, hk, rfl⟩ := List.getElem_of_mem hp
        exact hsj k hk hk
      · exact hsm.2 k (by omega)
  · obtain rfl : i = n := by omega
    have hbf : b = false := by cases b with | false => rfl | true => exact absurd hsm (hb.1 rfl)
    exact rt (congrArg Value.bool hbf.symm)
end Go.Proofs.YteamnhpplclmfaaGreatDoor
end
section
namespace Go.Proofs.YteamnhpplclmfaaGreatDoor
open Go.RowKit Go.Sx
set_option linter.unusedVariables false
theorem _root_.Go.Proofs.YteamnhpplclmfaaGreatDoor.PayIn.below {w w' : World} {a : Option Addr} {c : Nat} {vs : List Value} {ps : List Bs} (h : PayIn w a c vs ps) (hb : Below w.heap.size w w') : PayIn w' a c vs ps := ⟨h.row.below hb, h.pls, fun i v p hv hp => (h.el i v p hv hp).below hb, h.mx, h.cap⟩
theorem se_rdb {w : World} {r : Sx.Own} {xs : List Value} {e : TypeId} {n : Nat} (h : (se r xs e).Ok w) (hR : Rw 1 n r xs) : RdB (rowB r) w (sv r n) xs :=
  own_rdb (St.from w [fun _ => True] [se r xs e] (fun f hf => by obtain rfl := List.mem_singleton.1 hf; exact ⟨h, fun k _ => ⟨_, List.mem_singleton.2 rfl, trivial⟩⟩) (by simp)) 0 rfl hR
theorem CpOk.pls {ps : List Bs} {y : Cp} (h : CpOk ps ps.length y) : Pls (rowsV y.l) ps ∧ y.l.length = ps.length ∧ ∀ i (hi : i < y.l.length), ps[i]? = some y.l[i].2 := by
  have hm := h.m
  rw [List.take_length] at hm
  have hl : y.l.length = ps.length := by rw [← hm]; simp
  have hg : ∀ i (hi : i < y.l.length), ps[i]? = some y.l[i].2 := fun i hi => by rw [← hm]; simp [hi]
  refine ⟨⟨by unfold rowsV; rw [List.length_map]; exact hl, fun i v p hv hp => ?_⟩, hl, hg⟩
  have hi : i < y.l.length := by have := (List.getElem?_eq_some_iff.1 hp).1; omega
  have hv' : v = sv y.l[i].1 y.l[i].2.length := by unfold rowsV at hv; simp [hi] at hv; exact hv.symm
  have hp' : p = y.l[i].2 := Option.some.inj (hp.symm.trans (hg i hi))
  obtain ⟨a, c, e⟩ := sv_sl (h.ok y.l[i] (List.getElem_mem hi)).1
  exact ⟨a, c, by rw [hv', hp', e]⟩
/-- both stores and both disks behind so many acts -/
structure PlOk (q size x1 : Nat) (i : Nat) (T : StS) (y : Ry) : Prop where
  ok : StOk T
  bd : T.k.bd = x1
  ry : RyOk y
  sm : Sm T.S y.S
  e : Eqv T.k.D y.M
  hp : Hp (8 * i) T.S T.k.D
  bw : Bw q (100 * (i + 1)) T.k.D
  sz : T.S.size = size
theorem PlOk.stq {q size x1 i : Nat} {T : StS} {y : Ry} (h : PlOk q size x1 i T y) : Stq T y := ⟨h.e, h.sm.p, h.sm.u, h.sm.l, h.sm.k⟩
theorem Hp.up {m m' : Nat} {S : Sr} {D : Dk} (h : Hp m S D) (hm : m ≤ m') : Hp m' S D := h.stop hm id rfl rfl rfl rfl
theorem appS_size (x : Sd) (ps : List Bs) : (appendS x ps).1.S.size = x.S.size := by
  unfold appendS
  split
  · rfl
  split
  · rfl
  split
  · rfl
  split
  · rfl
  split <;> rfl
theorem syncS_size (x : Sd) : (syncS x).1.S.size = x.S.size := by
  unfold syncS
  split
  · rfl
  split
  · rfl
  split
  · split <;> rfl
  · rfl
set_option maxRecDepth 100000 in
set_option maxHeartbeats 8000000 in
theorem plays_loop {w : World} {a : Option Addr} {n c : Nat} {O : Nat → Op8} (hS : ∀ i, i < n → Act8 w a i (O i)) (hsm : Sm8 O n) (hN : ∀ i, i < n → -9223372036854775808 ≤ (O i).n ∧ (O i).n ≤ 9223372036854775807) (hL : ∀ i, i < n → ∀ p ∈ (O i).ps, p.length ≤ 140737488355328)
    {size q x1 b10 : Nat} (hz1 : 64 ≤ size) (hz2 : size ≤ 1048576) (hq : q ≤ 16777216) {T0 : StS} {y0 : Ry} (h0 : PlOk q size x1 0 T0 y0) :
    CodeP ⟨Tryz.prog, tab, 189, [], w, none⟩ (dropS 8 ((Tryz.f7.body).getD .skip)) (retK ⟨Tryz.prog, tab, 189, [], w, none⟩ Tryz.f7 (fun v w' => v = .bool true ∧ Below w.heap.size w w')) ⟨[(1, .int .i64 size), (2, .slice a n c), (7, ptr x1), (9, ptr T0.bs), (10, ptr b10)], [rs (stR T0), cl b10 (ryC y0) TRS, rs (ryR y0)], []⟩ := by
  have hxx : ∀ z : Int, (z != z) = false := fun z => bne_self_eq_false z
  have hyy : ∀ z : Int, ((z != z) == false) = true := fun z => by rw [hxx]; rfl
  have hn41 := hsm.1
  refine cx_ok tab_ok _ _ _ ?_
  refine lp tab_ok (fun y : Nat × StS × Ry => y.1 ≤ n ∧ PlOk q size x1 y.1 y.2.1 y.2.2) (fun y => ⟨[(1, .int .i64 size), (7, ptr x1), (9, ptr y.2.1.bs), (10, ptr b10), (64, .slice a n c), (65, .int .i64 n), (66, .int .i64 y.1)], [rs (stR y.2.1), cl b10 (ryC y.2.2) TRS, rs (ryR y.2.2)], []⟩) (fun y => n - y.1)
    (0, T0, y0) ⟨Nat.zero_le _, h0⟩ ⟨⟨rfl, rfl, rfl, rfl, rfl, rfl, rfl, trivial⟩, Sub.refl _, rfl⟩ ?_
  rintro ⟨i, T, y⟩ ⟨hi, hJ0⟩
  dsimp only at hi hJ0 ⊢
  have hbd := hJ0.bd
  have hB0 := hJ0.bw.bd
  have hpl0 := hJ0.hp.pl
  have hla0 := hJ0.hp.la
  have hle0 := hJ0.hp.le
  have hRb : Rb q (100 * (i + 1)) y.M := ⟨T.k.D, hJ0.e, hB0⟩
  have hypl : y.S.pl.length ≤ 1000000 := by rw [← hJ0.sm.p]; omega
  have hyla : y.S.last ≤ 2000000 := by rw [← hJ0.sm.l]; omega
  have hysz : y.S.size ≤ 1000000000 := by rw [← hJ0.sm.z, hJ0.sz]; omega
  refine cd (fun h => ?_) (fun h => ?_)
  case refine_2 =>
    refine ldN 1 rfl rfl ?_
    refine cvs (fun w1 hs => by have := stand_ry T hJ0.ok y hJ0.stq hJ0.ry hJ0.bw.bd hq (by omega) (by omega) (fun p hp => by have := hJ0.hp.ps p hp; omega) w1 (hs.res (k := 0) rfl) (hs.res (k := 2) rfl); rwa [hbd] at this) ?_
    exact rt rfl
  have hil : i < n := by omega
  have hact := hS i hil
  have hqn := hN i hil
  have hqL := hL i hil
  obtain ⟨hp8, hq3⟩ := hsm.2 i hil
  obtain ⟨o, ho⟩ : ∃ o, o = O i := ⟨_, rfl⟩
  rw [← ho] at hact hqn hqL hp8 hq3
  obtain ⟨⟨bo, off, rfl, hbl, hc⟩, hI, hpm⟩ := hact
  refine ⟨by omega, by omega, ?_⟩
  refine ldoN (d := #[.int .i64 o.kind, .int .i64 o.n, .slice o.a o.ps.length o.c]) (fun j u hu => by rw [nad_eq, nmu_eq, Int.toNat_natCast]; exact hc j u hu) hbl rfl ?_
  intro b13
  refine sN 3 rfl rfl rfl ?_ (by kernel_rfl)
  refine ld1 3 rfl (v := .int .i64 o.kind) rfl ?_
  subst hbd
  refine cq (fun h1 => ?_) (fun h1 => ?_)
  · -- payloads
    obtain ⟨E1, E2, E3⟩ := eqv_append hJ0.e hJ0.sm (Ss := hJ0.hp.st.choose) (P := hJ0.hp.st.choose_spec.choose) (q := hJ0.hp.st.choose_spec.choose_spec.choose) (fun h9 => hJ0.hp.st.choose_spec.choose_spec.choose_spec.2.2.2 h9) o.ps (by have := hJ0.hp.st.choose_spec.choose_spec.choose_spec.2.1; omega)
    have hHp := (hJ0.hp.append o.ps hq3 (by omega)).up (m' := 8 * (i + 1)) (by omega)
    have hBw := (hJ0.bw.appS (x := ⟨T.S, T.k.D⟩) o.ps).le (k' := 100 * (i + 1 + 1)) (by omega)
    have hsz := appS_size ⟨T.S, T.k.D⟩ o.ps
    refine ld1 3 rfl (v := .slice o.a o.ps.length o.c) rfl ?_
    refine cMs (α := Cp) (Φ := CpOk o.ps o.ps.length) (v := fun y => sv y.r o.ps.length) (es := fun y => [se y.r (rowsV y.l) TB, rs (mres (rowsE y.l))]) (fun w1 hs => copies_any (hI.below hs.below) (by omega) hqL) (fun x hx e he k hk => by
      simp only [List.mem_cons, List.not_mem_nil, or_false] at he
      rcases he with rfl | rfl
      · exact Classical.byContradiction fun h => se_A (p := fun _ => False) k hk h
      · exact rows_A k hk) (fun cp hcp => ?_)
    obtain ⟨hcP, hcl, hcg⟩ := hcp.pls
    obtain ⟨la, lc, hlv⟩ := sv_sl hcp.row
    rw [hlv]
    refine cTs 0 (x := (appendS ⟨T.S, T.k.D⟩ o.ps).1) (code := (appendS ⟨T.S, T.k.D⟩ o.ps).2) rfl (fun w1 hs => ?_) (fun T' e1 e2 e3 e4 e5 => ?_)
    · refine appS_any T hJ0.ok (oth w _ 0) la lc (rowsV cp.l) o.ps hcP (by omega) hI.mx (by omega) (by omega) (by omega) hB0 (by omega) hq w1 (hs.res (k := 0) rfl) ⟨?_, fun j v p hv hp => ?_, fun b hb => oth_far hs rfl hb⟩
      · have h9 := own_rdb hs 4 rfl hcp.row
        rw [hlv] at h9
        exact h9.mono fun b hb => .inr ⟨4, se cp.r (rowsV cp.l) TB, by decide, rfl, se_own hb⟩
      · have hj : j < cp.l.length := by have := (List.getElem?_eq_some_iff.1 hp).1; omega
        have hv' : v = sv cp.l[j].1 cp.l[j].2.length := by unfold rowsV at hv; simp [hj] at hv; exact hv.symm
        have hp' : p = cp.l[j].2 := Option.some.inj (hp.symm.trans (hcg j hj))
        have hmem : se cp.l[j].1 (Lib.byteCells cp.l[j].2) 5 ∈ rowsE cp.l := List.mem_map.2 ⟨_, List.getElem_mem hj, rfl⟩
        have hres : (mres (rowsE cp.l)).p w1 := hs.res (k := 5) rfl
        rw [hv', hp']
        exact (se_rdb (hres.1 _ hmem) (hcp.ok _ (List.getElem_mem hj)).1).mono fun b hb => .inr ⟨5, _, by decide, rfl, (mresA _ _).2 ⟨_, hmem, se_own hb⟩⟩
    refine ldN 1 rfl rfl ?_
    refine ld1 3 rfl (v := .slice o.a o.ps.length o.c) rfl ?_
    refine cRq (D' := (rappendS ⟨y.S, y.M⟩ o.ps).1.D) (S' := (rappendS ⟨y.S, y.M⟩ o.ps).1.S) (code := (rappendS ⟨y.S, y.M⟩ o.ps).2) 2 rfl (fun w1 hs => rappendS_any hJ0.ry (hs.res (k := 2) rfl) (hI.below hs.below) (by omega) hypl hyla hysz hRb (by omega) hq) (fun z z1 z2 z3 => ?_)
    refine sN 1 rfl rfl (ryC_one _) ?_ (by kernel_rfl)
    rw [← E1]
    obtain ⟨cd0, hcd⟩ : ∃ cd0, cd0 = (appendS ⟨T.S, T.k.D⟩ o.ps).2 := ⟨_, rfl⟩
    rw [← hcd]
    have hJ : PlOk q size T.k.bd (i + 1) T' z := ⟨e5, e4, z1, by rw [e1, z3]; exact E2, by rw [e2, z2]; exact E3, by rw [e1, e2]; exact hHp, by rw [e2]; exact hBw, by rw [e1, hsz]; exact hJ0.sz⟩
    refine lp tab_ok (fun j : Nat => j ≤ o.ps.length) (fun j => ⟨[(1, .int .i64 size), (7, ptr T.k.bd), (8, errV cd0), (9, ptr T.bs), (10, ptr b10), (11, .int .i64 cd0), (13, ptr b13), (64, .slice (some ⟨bo, off, none⟩) n c), (65, .int .i64 n), (66, .int .i64 i), (131, .slice la o.ps.length lc), (132, .int .i64 o.ps.length), (133, .int .i64 j)], [rs (stR T'), cl b10 (ryC z) TRS, rs (ryR z), cl b13 #[.int .i64 o.kind, .int .i64 o.n, .slice o.a o.ps.length o.c] 65, se cp.r (rowsV cp.l) TB, rs (mres (rowsE (cp.l.drop j)))], []⟩) (fun j => o.ps.length - j) 0 (Nat.zero_le _)
      ⟨⟨rfl, rfl, rfl, rfl, rfl, rfl, rfl, rfl, rfl, rfl, rfl, rfl, rfl, trivial⟩, Sub.refl _, rfl⟩ ?_
    intro j hj
    refine cd (fun h2 => ?_) (fun h2 => ?_)
    · have hjl : j < o.ps.length := by omega
      have hjc : j < cp.l.length := by omega
      have hne : o.vs ≠ [] := fun e => by have := hI.pls.len; rw [e] at this; simp at this; omega
      obtain ⟨pb, po, hoa⟩ := hI.row.addr hne
      obtain ⟨hRx, bx, cx0, jx, hx1⟩ := hcp.ok _ (List.getElem_mem hjc)
      have hdr : cp.l.drop j = cp.l[j] :: cp.l.drop (j + 1) := List.drop_eq_getElem_cons hjc
      have hpx := hcg j hjc
      have hvx : (rowsV cp.l)[j]? = some (sv cp.l[j].1 cp.l[j].2.length) := by unfold rowsV; simp [hjc]
      have hxL := hqL _ (List.mem_of_getElem? hpx)
      obtain ⟨qa, qc, hqv⟩ := hI.pls.at hpx
      have hel := hI.el j _ _ hqv hpx
      generalize cp.l[j] = x at hRx hx1 hdr hpx hvx hqv hel hxL
      obtain ⟨xr, xp⟩ := x
      dsimp only at hRx hx1 hpx hvx hqv hel hxL
      subst hx1
      obtain ⟨xa, xc, hxv⟩ := sv_sl hRx
      obtain ⟨lb, lo, rfl⟩ : ∃ b o, la = some ⟨b, o, none⟩ := by
        cases hr : cp.r with
        | none => have := hcp.row; rw [hr] at this; have h9 : o.ps.length = 0 := this.2; omega
        | some p => obtain ⟨pb, pc, pj⟩ := p; rw [hr] at hlv; injection hlv with g1 g2 g3; exact ⟨pb, 0, g1.symm⟩
      refine ⟨by omega, by omega, ?_⟩
      refine .mk (sv (some (bx, cx0, marks ++ jx)) xp.length) (fun w' hs => by have := Rd.own hs 4 rfl hcp.row; rw [hlv] at this; exact this.at hvx rfl) ?_
      have hrow := hI.row
      rw [hoa] at hrow
      refine ld1 3 rfl (v := .slice o.a o.ps.length o.c) rfl ?_
      rw [hoa]
      refine ⟨by omega, by omega, ?_⟩
      refine ldo (hrow.at hqv rfl) (hrow.lt0 hne) ?_
      refine CallP.fromL (fun w1 hs => rows_out (X := [rs (stR T'), cl b10 (ryC z) TRS, rs (ryR z), cl b13 #[.int .i64 o.kind, .int .i64 o.n, .slice (some ⟨pb, po, none⟩) o.ps.length o.c] 65, se cp.r (rowsV cp.l) TB]) (x := (some (bx, cx0, marks ++ jx), xp)) (l := cp.l.drop (j + 1)) (by rw [← hdr]; exact hs)) ?_
      refine cvs (fun w1 hs => kept_big hxL rfl hRx w1 (hs.nth (k := 5) rfl) (hel.below hs.below)) ?_
      refine cf rfl ?_
      refine over_big 5 rfl hRx hxL ?_
      refine .as ((j + 1 : Nat) : Int) (by omega) (by simp only [mn]; omega) (by simp only [mx]; omega) ?_
      exact ⟨j + 1, hjl, by omega, ⟨⟨rfl, rfl, rfl, rfl, rfl, rfl, rfl, rfl, rfl, rfl, rfl, rfl, rfl, trivial⟩, (.cons (.cons (.cons (.cons (.cons (.drop (.cons .nil))))))), rfl⟩⟩
    · rw [← e3]
      refine cv (fun w1 => num_any (cd0) w1) ?_
      repeat (first | refine ct rfl ?_ | refine cf rfl ?_ | refine ct (hyy _) ?_ | refine cf (hxx _) ?_)
      refine ldN 1 rfl rfl ?_
      repeat (first | refine ct rfl ?_ | refine cf rfl ?_ | refine ct (hyy _) ?_ | refine cf (hxx _) ?_)
      refine cvs (fun w1 hs => by have := stand_ry (T') (hJ).ok (z) (hJ).stq (hJ).ry (hJ).bw.bd hq (by omega) (by have := (hJ).hp.pl; omega) (fun p hp => by have := (hJ).hp.ps p hp; omega) w1 (hs.res (k := 0) rfl) (hs.res (k := 2) (r := ryR (z)) rfl); rwa [(hJ).bd] at this) ?_
      repeat (first | refine ct rfl ?_ | refine cf rfl ?_ | refine ct (hyy _) ?_ | refine cf (hxx _) ?_)
      refine .as ((i + 1 : Nat) : Int) (by omega) (by simp only [mn]; omega) (by simp only [mx]; omega) ?_
      exact ⟨(i + 1, T', z), ⟨hil, hJ⟩, by dsimp only; omega, ⟨⟨rfl, rfl, rfl, rfl, rfl, rfl, rfl, trivial⟩, (.cons (.cons (.cons (.drop (.drop (.drop .nil)))))), rfl⟩⟩
  refine cq (fun h1 => ?_) (fun h1 => ?_)
  · -- sync
    obtain ⟨E1, E2, E3⟩ := eqv_sync hJ0.e hJ0.sm
    have hHp := (hJ0.hp.sync).up (m' := 8 * (i + 1)) (by omega)
    have hBw := (hJ0.bw.syncS (x := ⟨T.S, T.k.D⟩)).le (k' := 100 * (i + 1 + 1)) (by omega)
    have hsz := syncS_size ⟨T.S, T.k.D⟩
    refine cTs 0 (x := (syncS ⟨T.S, T.k.D⟩).1) (code := (syncS ⟨T.S, T.k.D⟩).2) rfl (fun w1 hs => syncS_any T hJ0.ok (by omega) hB0 (by omega) w1 (hs.res (k := 0) rfl)) (fun T' e1 e2 e3 e4 e5 => ?_)
    refine ldN 1 rfl rfl ?_
    refine cRq (D' := (rsyncS ⟨y.S, y.M⟩).1.D) (S' := (rsyncS ⟨y.S, y.M⟩).1.S) (code := (rsyncS ⟨y.S, y.M⟩).2) 2 rfl (fun w1 hs => rsyncQ hJ0.ry hRb (by omega) (by omega) w1 (hs.res (k := 2) rfl)) (fun z z1 z2 z3 => ?_)
    refine sN 1 rfl rfl (ryC_one _) ?_ (by kernel_rfl)
    rw [← E1]
    obtain ⟨cd0, hcd⟩ : ∃ cd0, cd0 = (syncS ⟨T.S, T.k.D⟩).2 := ⟨_, rfl⟩
    rw [← hcd]
    have hJ : PlOk q size T.k.bd (i + 1) T' z := ⟨e5, e4, z1, by rw [e1, z3]; exact E2, by rw [e2, z2]; exact E3, by rw [e1, e2]; exact hHp, by rw [e2]; exact hBw, by rw [e1, hsz]; exact hJ0.sz⟩
    rw [← e3]
    refine cv (fun w1 => num_any (cd0) w1) ?_
    repeat (first | refine ct rfl ?_ | refine cf rfl ?_ | refine ct (hyy _) ?_ | refine cf (hxx _) ?_)
    refine ldN 1 rfl rfl ?_
    repeat (first | refine ct rfl ?_ | refine cf rfl ?_ | refine ct (hyy _) ?_ | refine cf (hxx _) ?_)
    refine cvs (fun w1 hs => by have := stand_ry (T') (hJ).ok (z) (hJ).stq (hJ).ry (hJ).bw.bd hq (by omega) (by have := (hJ).hp.pl; omega) (fun p hp => by have := (hJ).hp.ps p hp; omega) w1 (hs.res (k := 0) rfl) (hs.res (k := 2) (r := ryR (z)) rfl); rwa [(hJ).bd] at this) ?_
    repeat (first | refine ct rfl ?_ | refine cf rfl ?_ | refine ct (hyy _) ?_ | refine cf (hxx _) ?_)
    refine .as ((i + 1 : Nat) : Int) (by omega) (by simp only [mn]; omega) (by simp only [mx]; omega) ?_
    exact ⟨(i + 1, T', z), ⟨hil, hJ⟩, by dsimp only; omega, ⟨⟨rfl, rfl, rfl, rfl, rfl, rfl, rfl, trivial⟩, (.cons (.cons (.cons (.drop .nil)))), rfl⟩⟩
  refine cq (fun h1 => ?_) (fun h1 => ?_)
  · -- arm
    refine ld1 3 rfl (v := .int .i64 o.n) rfl ?_
    by_cases hneg : o.n < 0
    · refine ct (decide_eq_true hneg) ?_
      refine .as ((i + 1 : Nat) : Int) (by omega) (by simp only [mn]; omega) (by simp only [mx]; omega) ?_
      exact ⟨(i + 1, T, y), ⟨hil, ⟨hJ0.ok, rfl, hJ0.ry, hJ0.sm, hJ0.e, hJ0.hp.up (by omega), hJ0.bw.le (by omega), hJ0.sz⟩⟩, by dsimp only; omega, ⟨⟨rfl, rfl, rfl, rfl, rfl, rfl, rfl, trivial⟩, (.cons (.cons (.cons (.drop .nil)))), rfl⟩⟩
    refine cf (decide_eq_false hneg) ?_
    obtain ⟨k, hk⟩ : ∃ k : Nat, o.n = k := ⟨o.n.toNat, by omega⟩
    refine ld1 3 rfl (v := .int .i64 o.n) rfl ?_
    rw [hk]
    refine cTk (α := Unit) (Φ := fun _ => True) (v := fun _ => .nilIface) (K' := fun _ => T.k.withD { T.k.D with armed := true, left := k }) 0 rfl (fun w1 hdk => (arm_any T.k k w1 hdk).mono fun e w' ⟨g1, g2⟩ => ⟨(), trivial, rfl, g1, g2⟩) (fun _ _ _ => ?_)
    refine dr [dead, dead, dead, cl b13 #[.int .i64 o.kind, .int .i64 (k : Nat), .slice o.a o.ps.length o.c] 65] 7 (.t 0 (.t 1 (.t 2 (.t 3 (.n 4 (.n 5 (.n 6 (.n 7 .nil)))))))) tab_ok mixed_ok (by kernel_rfl) (.dead (.dead (.dead (.cons .nil)))) ?_
    refine ld1 3 rfl (v := .int .i64 k) rfl ?_
    refine s1 1 rfl (by show 3 < 11; decide) ?_
    iterate 3 refine ⟨(.dead (.dead (.dead (.cons .nil)))), ?_⟩
    have hJ : PlOk q size T.k.bd (i + 1) { T with k := T.k.withD { T.k.D with armed := true, left := k } } { y with M := { y.M with armed := true, left := k } } :=
      ⟨⟨hJ0.ok.row, hJ0.ok.pls⟩, rfl, ⟨hJ0.ry.fs, hJ0.ry.sh, hJ0.ry.pls⟩, hJ0.sm, ⟨hJ0.e.st, rfl, rfl, hJ0.e.gn, hJ0.e.qt, hJ0.e.f⟩, hJ0.hp.stop (m' := 8 * (i + 1)) (by omega) id rfl rfl rfl rfl, (hJ0.bw.arm k (by omega)).le (by omega), hJ0.sz⟩
    refine s1e 1 (ryC { y with M := { y.M with armed := true, left := k } }) rfl (by show 2 < 11; decide) rfl ?_
    refine cv (fun w1 => num_any (0) w1) ?_
    repeat (first | refine ct rfl ?_ | refine cf rfl ?_ | refine ct (hyy _) ?_ | refine cf (hxx _) ?_)
    refine ldN 1 rfl rfl ?_
    repeat (first | refine ct rfl ?_ | refine cf rfl ?_ | refine ct (hyy _) ?_ | refine cf (hxx _) ?_)
    refine cvs (fun w1 hs => by have := stand_ry ({ T with k := T.k.withD { T.k.D with armed := true, left := k } }) (hJ).ok ({ y with M := { y.M with armed := true, left := k } }) (hJ).stq (hJ).ry (hJ).bw.bd hq (by omega) (by have := (hJ).hp.pl; omega) (fun p hp => by have := (hJ).hp.ps p hp; omega) w1 (hs.res (k := 0) rfl) (hs.res (k := 2) (r := ryR ({ y with M := { y.M with armed := true, left := k } })) rfl); rwa [(hJ).bd] at this) ?_
    repeat (first | refine ct rfl ?_ | refine cf rfl ?_ | refine ct (hyy _) ?_ | refine cf (hxx _) ?_)
    refine .as ((i + 1 : Nat) : Int) (by omega) (by simp only [mn]; omega) (by simp only [mx]; omega) ?_
    exact ⟨(i + 1, { T with k := T.k.withD { T.k.D with armed := true, left := k } }, { y with M := { y.M with armed := true, left := k } }), ⟨hil, hJ⟩, by dsimp only; omega, ⟨⟨rfl, rfl, rfl, rfl, rfl, rfl, rfl, trivial⟩, (.cons (.cons (.cons (.drop .nil)))), rfl⟩⟩
  · -- the power goes
    refine ld1 3 rfl (v := .int .i64 o.n) rfl ?_
    refine cCrash rfl 0 hqn rfl (fun K' k1 k2 => ?_)
    refine ldP 1 (d := rdC y.M (.slice y.fa y.ps.length y.fc)) rfl rfl rfl ?_
    refine ld1 3 rfl (v := .int .i64 o.n) rfl ?_
    refine cRc 2 (M' := crashD y.M o.n) hJ0.ry rfl (fun w1 hs => (rcrash_any y.M _ y.rr o.n hqn.2 (by have := hRb.fl; omega) (fun f hf => ⟨hRb.sz f hf, Nat.le_trans (hRb.fz f hf) hq⟩) w1 (hJ0.ry.rfs (hs.res (k := 2) rfl)) (ryR_lt (hs.res (k := 2) rfl))).mono fun e w' ⟨fv', rr', g1, g2, g3, g4⟩ => ⟨fv', rr', g1, g2, g3, fun k hk => .inr (g4 k hk)⟩) (fun F f1 f2 => ?_)
    obtain ⟨FM, fa1, fc1, ps1, rr1⟩ := F
    dsimp only at f1
    subst f1
    refine sP 1 (d := rdC (crashD y.M o.n) (.slice fa1 ps1.length fc1)) rfl (by show 0 + 6 ≤ 11; decide) rfl (e := ryC (y.on ⟨crashD y.M o.n, fa1, fc1, ps1, rr1⟩)) rfl ?_ (by kernel_rfl)
    obtain ⟨o1, o2⟩ := hJ0.hp.reopen hB0 hq o.n size
    have hec := hJ0.e.crash o.n
    obtain ⟨E1, E2, E3⟩ := eqv_open hec rfl size
    have hBc := hJ0.bw.crash o.n
    rw [← k1] at o1 o2 E1 E2 E3 hBc hec
    rw [← k2]
    have hRc : Rb q (100 * (i + 1)) (crashD y.M o.n) := ⟨K'.D, hec, hBc.bd⟩
    have hc0 : (ropenP (crashD y.M o.n) size).code = 0 := by rw [← E1]; exact o1
    refine cOpen2 (K := K') (size := size) [cl b10 (ryC (y.on ⟨crashD y.M o.n, fa1, fc1, ps1, rr1⟩)) TRS, rs (ryR (y.on ⟨crashD y.M o.n, fa1, fc1, ps1, rr1⟩)), cl b13 #[.int .i64 o.kind, .int .i64 o.n, .slice o.a o.ps.length o.c] 65] (fun w1 hs => St.unst (T := { T with k := K' }) hs) hz1 hz2 (by rw [k1]; rfl) hBc.bd (by omega) hq (fun _ T2 t1 t2 t3 t4 => ?_) (fun h9 => absurd o1 h9)
    refine ldP 1 (d := rdC (crashD y.M o.n) (.slice fa1 ps1.length fc1)) rfl rfl rfl ?_
    refine cRq (y := y.on ⟨crashD y.M o.n, fa1, fc1, ps1, rr1⟩) (D' := (ropenP (crashD y.M o.n) size).D) (S' := (ropenP (crashD y.M o.n) size).S) (code := 0) 2 rfl (fun w1 hs => (ropen_any (crashD y.M o.n) _ rr1 size hz1 hz2 rfl hRc (by omega) hq w1 (f2.rfs (hs.res (k := 2) rfl))).mono fun e w' hr => refO_Q (by rw [hc0] at hr; exact hr)) (fun z z1 z2 z3 => ?_)
    intro b18
    refine sN 4 rfl rfl (ryC_one _) ?_ (by kernel_rfl)
    refine cv (fun w1 => num_any 0 w1) ?_
    repeat (first | refine ct rfl ?_ | refine cf rfl ?_ | refine ct (hyy _) ?_ | refine cf (hxx _) ?_)
    refine dr [dead, dead, dead, dead, cl b18 (ryC z) TRS] 99 (.t 0 (.t 1 (.t 2 (.n 3 (.n 4 (.n 5 .nil)))))) tab_ok mixed_ok (by kernel_rfl) (.dead (.dead (.dead (.dead (.cons .nil))))) ?_
    refine ldN 4 rfl rfl ?_
    refine ⟨(.dead (.dead (.dead (.dead (.cons .nil))))), ?_⟩
    refine sN 1 rfl rfl (ryC_one _) ?_ (by kernel_rfl)
    iterate 2 refine ⟨(.dead (.dead (.dead (.dead (.cons .nil))))), ?_⟩
    have hJ : PlOk q size K'.bd (i + 1) T2 z := ⟨t4, t3, z1, by rw [t1, z3, E3 o1]; exact Sm.refl _, by rw [t2, z2]; exact E2, by rw [t1, t2]; exact o2.up (by omega), by rw [t2]; exact (hBc.open size).le (by omega), by rw [t1]; rfl⟩
    refine cv (fun w1 => num_any (0) w1) ?_
    repeat (first | refine ct rfl ?_ | refine cf rfl ?_ | refine ct (hyy _) ?_ | refine cf (hxx _) ?_)
    refine ldN 1 rfl rfl ?_
    repeat (first | refine ct rfl ?_ | refine cf rfl ?_ | refine ct (hyy _) ?_ | refine cf (hxx _) ?_)
    refine cvs (fun w1 hs => by have := stand_ry (T2) (hJ).ok (z) (hJ).stq (hJ).ry (hJ).bw.bd hq (by omega) (by have := (hJ).hp.pl; omega) (fun p hp => by have := (hJ).hp.ps p hp; omega) w1 (hs.res (k := 0) rfl) (hs.res (k := 2) (r := ryR (z)) rfl); rwa [(hJ).bd] at this) ?_
    repeat (first | refine ct rfl ?_ | refine cf rfl ?_ | refine ct (hyy _) ?_ | refine cf (hxx _) ?_)
    refine .as ((i + 1 : Nat) : Int) (by omega) (by simp only [mn]; omega) (by simp only [mx]; omega) ?_
    exact ⟨(i + 1, T2, z), ⟨hil, hJ⟩, by dsimp only; omega, ⟨⟨rfl, rfl, rfl, rfl, rfl, rfl, rfl, trivial⟩, (.cons (.cons (.cons (.drop (.drop .nil))))), rfl⟩⟩
end Go.Proofs.YteamnhpplclmfaaGreatDoor
end
section
namespace Go.Proofs.YteamnhpplclmfaaGreatDoor
open Go.RowKit Go.Sx
set_option linter.unusedVariables false
set_option maxRecDepth 100000 in
set_option maxHeartbeats 4000000 in
theorem law_plays8 (zq : Int) (hzq : -9223372036854775808 ≤ zq ∧ zq ≤ 9223372036854775807) (z : Int) (hz : -9223372036854775808 ≤ z ∧ z ≤ 9223372036854775807) (v : Value) (n : Nat) (O : Nat → Op8) (w : World) (hS : Scr8 w v n O) (hN : ∀ i, i < n → -9223372036854775808 ≤ (O i).n ∧ (O i).n ≤ 9223372036854775807) (hL : ∀ i, i < n → ∀ p ∈ (O i).ps, p.length ≤ 140737488355328) (hw : Laid w) :
    Calls Tryz.prog 7 ([.int .i64 zq, .int .i64 z, v] : List Value).toArray w fun e w' => e = .returned (.bool true) ∧ Below w.heap.size w w' := by
  obtain ⟨hn, a, c, rfl, hS⟩ := hS
  obtain ⟨b, hb⟩ : ∃ b : Bool, b = true ↔ ¬ Sm8 O n := by
    by_cases h : Sm8 O n
    · exact ⟨false, by simp [h]⟩
    · exact ⟨true, by simp [h]⟩
  refine (enterP tab_ok Tryz.func7 rfl Tryz.ntmps7 rfl (St.laid hw) (R := fun v w' => v = .bool true ∧ Below w.heap.size w w') ?_).mono (fun e w' ⟨u, he, h1, h2⟩ => ⟨by rw [he, h1], h2⟩)
  refine cutS tab_ok (fun y : StS × Ry × Nat × Nat × Nat × Nat => Sm8 O n ∧ z = (y.2.2.2.1 : Nat) ∧ 64 ≤ y.2.2.2.1 ∧ y.2.2.2.1 ≤ 1048576 ∧ y.2.2.2.2.1 ≤ 16777216 ∧ PlOk y.2.2.2.2.1 y.2.2.2.1 y.2.2.2.2.2 0 y.1 y.2.1) (fun y => ⟨[(1, .int .i64 z), (2, .slice a n c), (7, ptr y.2.2.2.2.2), (9, ptr y.1.bs), (10, ptr y.2.2.1)], [rs (stR y.1), rs (ryR y.2.1), cl y.2.2.1 (ryC y.2.1) TRS], []⟩) 8 ?_ (fun y ⟨g1, g2, g3, g4, g5, g6⟩ => ?_)
  case refine_2 =>
    refine CodeP.from (L' := [rs (stR y.1), cl y.2.2.1 (ryC y.2.1) TRS, rs (ryR y.2.1)]) (fun w1 hs => hs.perm (.cons _ (.swap _ _ _))) ?_
    rw [g2]
    exact plays_loop hS g1 hN hL g3 g4 g5 g6
  refine cvs (fun w1 hs => alive_any w1 (hs.res (k := 0) rfl)) ?_
  refine cf rfl ?_
  refine cvs (fun w1 hs => large8_any _ n O b hb w1 ⟨hn, a, c, rfl, fun i hi => (hS i hi).below hs.below⟩) ?_
  cases b with
  | true =>
    repeat (first | refine ct rfl ?_ | refine cf rfl ?_)
    exact rt rfl
  | false =>
  have hsm : Sm8 O n := by
    by_cases h : Sm8 O n
    · exact h
    · exact absurd (hb.2 h) (by decide)
  by_cases h1 : zq < 0
  · have e1 : decide (zq < 0) = true := decide_eq_true h1
    have e2 : (decide (zq < 0) == false) = false := by rw [e1]; rfl
    repeat (first | refine ct rfl ?_ | refine cf rfl ?_ | refine ct e1 ?_ | refine cf e2 ?_)
    exact rt rfl
  have e1 : decide (zq < 0) = false := decide_eq_false h1
  have e2 : (decide (zq < 0) == false) = true := by rw [e1]; rfl
  by_cases h2 : zq > 16777216
  · have e3 : decide (zq > 16777216) = true := decide_eq_true h2
    repeat (first | refine ct rfl ?_ | refine cf rfl ?_ | refine cf e1 ?_ | refine ct e2 ?_ | refine ct e3 ?_)
    exact rt rfl
  have e3 : decide (zq > 16777216) = false := decide_eq_false h2
  repeat (first | refine ct rfl ?_ | refine cf rfl ?_ | refine cf e1 ?_ | refine ct e2 ?_ | refine cf e3 ?_)
  obtain ⟨q, rfl⟩ : ∃ q : Nat, zq = q := ⟨zq.toNat, by omega⟩
  have hq : q ≤ 16777216 := by omega
  refine cM (α := Nat × Nat) (Φ := fun _ => True) (v := fun x => .tuple #[ptr x.1, .nilIface]) (r' := fun x => dkR (dk0 q x.1 x.2)) (fun w1 hs => (new_any q hq w1).mono fun e w' ⟨x, h1, h2, h3, h4, h5, h6⟩ => ⟨x, h1, h2, h3, h4, h5, fun k hk => (h6 k hk).elim⟩) (fun x _ => ?_)
  refine cf rfl ?_
  by_cases hr : z < 64 ∨ 1048576 < z
  · refine cvs (fun w1 hs => open_range (dk0 q x.1 x.2) z hr hz w1) ?_
    refine bu (c := rdC ⟨0, 0, false, false, q, []⟩ (.slice none 0 0)) (by kernel_rfl) ?_
    refine cv (fun w1 => ropen_range ⟨0, 0, false, false, q, []⟩ none 0 0 z hr w1) ?_
    intro b10
    refine sN 2 rfl rfl rfl ?_ (by kernel_rfl)
    refine cv (fun w1 => by rw [← errV2]; exact num_any 2 w1) ?_
    repeat (first | refine ct rfl ?_ | refine cf rfl ?_)
    refine cv (fun w1 => by rw [← errV2]; exact num_any 2 w1) ?_
    repeat (first | refine ct rfl ?_ | refine cf rfl ?_)
    exact rt rfl
  obtain ⟨size, rfl⟩ : ∃ n : Nat, z = n := ⟨z.toNat, by omega⟩
  have ez := open_fresh 0 0 false q size
  have hb0 : Bd q 0 (⟨0, 0, false, false, q, []⟩ : Dk) := Bd.zero q
  have hE0 : Eqv (⟨0, 0, false, false, q, []⟩ : Dk) ⟨0, 0, false, false, q, []⟩ := ⟨rfl, rfl, rfl, rfl, rfl, .refl rise_nil⟩
  obtain ⟨E1, E2, E3⟩ := eqv_open hE0 rfl size
  rw [ez] at E1 E2 E3
  have hc0 : (ropenP ⟨0, 0, false, false, q, []⟩ size).code = 0 := E1.symm
  refine cOpen2 (K := dk0 q x.1 x.2) (size := size) [] (fun w1 hs => hs.perm (.swap _ _ _)) (by omega) (by omega) rfl hb0 (by decide) hq (fun _ T0 hS0 hD0 hbd0 hok0 => ?_) (fun h => absurd (by show (openP ⟨0, 0, false, false, q, []⟩ size).code = 0; rw [ez]) h)
  have hS1 : T0.S = ⟨size, [], 0, 1, 0, 0⟩ := by rw [hS0]; show (openP ⟨0, 0, false, false, q, []⟩ size).S = _; rw [ez]
  have hD1 : T0.k.D = ⟨0, 0, false, false, q, []⟩ := by rw [hD0]; show (openP ⟨0, 0, false, false, q, []⟩ size).D = _; rw [ez]
  refine bu (c := rdC ⟨0, 0, false, false, q, []⟩ (.slice none 0 0)) (by kernel_rfl) ?_
  refine cM (α := Ry) (Φ := fun y => RyOk y ∧ y.M = (ropenP ⟨0, 0, false, false, q, []⟩ size).D ∧ y.S = (ropenP ⟨0, 0, false, false, q, []⟩ size).S) (v := fun y => .tuple #[.agg (ryC y), .int .i64 (0 : Nat)]) (r' := ryR) (fun w1 hs => (ropen_any ⟨0, 0, false, false, q, []⟩ (.slice none 0 0) (fun _ => False) size (by omega) (by omega) rfl (⟨_, hE0, hb0⟩ : Rb q 0 _) (by decide) hq w1 (RFs.nil _ _ _ _)).mono fun e w' hr => ?_) (fun y hy => ?_)
  · rw [hc0] at hr
    obtain ⟨y, y1, y2, y3, y4, y5, y6, y7⟩ := refO_Q hr
    exact ⟨y, ⟨y1, y2, y3⟩, y4, y5, y6, fun k hk => hk.elim, fun k hk => .inl ((y7 k hk).resolve_left id)⟩
  obtain ⟨y1, y2, y3⟩ := hy
  intro b10
  refine sN 2 rfl rfl (ryC_one _) ?_ (by kernel_rfl)
  refine cv (fun w1 => num_any 0 w1) ?_
  repeat (first | refine ct rfl ?_ | refine cf rfl ?_)
  refine ⟨(T0, y, b10, size, q, x.1), ⟨hsm, rfl, by show 64 ≤ size; omega, by show size ≤ 1048576; omega, hq, ⟨hok0, hbd0, y1, ?_, ?_, ?_, ?_, by rw [hS1]⟩⟩, ⟨⟨rfl, rfl, rfl, rfl, rfl, trivial⟩, Sub.refl _, rfl⟩⟩
  · rw [hS1, y3, ← E3 rfl]; exact Sm.refl _
  · rw [hD1, y2]; exact E2
  · rw [hS1, hD1]; exact Hp.zero size _ rfl
  · rw [hD1]; exact ⟨⟨0, hb0⟩, Nat.zero_le _⟩
end Go.Proofs.YteamnhpplclmfaaGreatDoor
end
