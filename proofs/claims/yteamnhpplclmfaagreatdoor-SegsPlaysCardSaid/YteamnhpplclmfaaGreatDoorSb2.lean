/- A store of records, its disk and its records, walked and in plain words; the fixed fact. -/
import Derived.RangeFuncBound
import Derived.RangeFuncRecord
import Derived.Test.YteamnhpplclmfaaGreatDoorProg
import Derived.KernelRfl
import Derived.Laws.BytesArg
import Derived.Laws.IdiomStrings
import Derived.Laws.MakeOwn
import Derived.Great.BuildSlice
import Derived.Laws.Small
import Derived.Test.YteamnhpplclmfaaGreatDoorSb1
section
namespace Go.Sx
open Go Go.RowKit
set_option linter.unusedVariables false

def Res.A (r : Res) (k : Nat) : Prop := r.w k ∨ r.r k
/-- a function that is ranged over: its states, its rounds, its ends, what it reads -/
structure Itr (P : Program) (g : FuncId) (lb : List Value) {I : Type} (i0 : I) (nx : I → List Value → I → Prop) (fin : I → Prop) (H : Res) : Prop where
  go : ∀ (l : Nat) (α β : Type) (R : I → α → Res) (S : β → Res) (W : World) (x0 : α), (R i0 x0).p W → H.p W → (∀ k, H.A k → ¬ (R i0 x0).w k) →
    (∀ i args j x w, nx i args j → (R i x).p w → ∀ m, YieldAt Fence.wide m P l args.toArray w fun e w' => (e = .returned (.bool true) ∧ ∃ y, Turns w w' (R i x) (R j y)) ∨ (e = .returned (.bool false) ∧ ∃ y, Turns w w' (R i x) (S y))) →
    Calls P g (.func (.yield l) #[] #[] :: lb).toArray W fun e W' => (∃ v, e = .returned v) ∧ ((∃ i y, fin i ∧ Turns W W' (R i0 x0) (R i y)) ∨ ∃ y, Turns W W' (R i0 x0) (S y))
/-- a round is asked for -/
theorem yd {C : Cx} {L : List Ent} {l : Nat} {args : List Value} {I α β : Type} {R : I → α → Res} {S : β → Res} {nx : I → List Value → I → Prop} (k : Nat) {i j : I} {x : α} {next : Value → List Ent → Prop} (hk : L[k]? = some (rs (R i x)))
    (hr : ∀ i args j x w, nx i args j → (R i x).p w → ∀ m, YieldAt Fence.wide m C.P l args.toArray w fun e w' => (e = .returned (.bool true) ∧ ∃ y, Turns w w' (R i x) (R j y)) ∨ (e = .returned (.bool false) ∧ ∃ y, Turns w w' (R i x) (S y)))
    (hn : nx i args j) (g1 : ∀ y, (∀ b, (R j y).A b → (R i x).A b ∨ C.B.heap.size ≤ b) → next (.bool true) (L.set k (rs (R j y)))) (g0 : ∀ y, (∀ b, (S y).A b → (R i x).A b ∨ C.B.heap.size ≤ b) → next (.bool false) (L.set k (rs (S y)))) : YieldP C l args L next := by
  refine ⟨fun w hs m => YieldAt.mono (hr i args j x w hn (hs.res hk) m) fun e w' h => ?_⟩
  have hsz := hs.size
  rcases h with ⟨he, y, ht⟩ | ⟨he, y, ht⟩
  · exact ⟨_, _, he, hs.turn hk ht, g1 y fun b hb => (ht.A b hb).imp id fun h => Nat.le_trans hsz h⟩
  · exact ⟨_, _, he, hs.turn hk ht, g0 y fun b hb => (ht.A b hb).imp id fun h => Nat.le_trans hsz h⟩

def Res.rd (r : Res) : Res := ⟨fun _ => False, fun k => r.w k ∨ r.r k, r.p, fun u v h => r.st u v fun k hk => h k (.inr hk), fun u h k hk => r.bd u h k (by rcases hk with hk | hk; exact hk.elim; exact hk)⟩
/-- an entry that is only read -/
def Ent.rd (e : Ent) : Ent := ⟨e.b, e.o, true, e.q.map Res.rd⟩
theorem Ent.rdW (e : Ent) (k : Nat) : ¬ e.rd.W k := by
  rintro (⟨_, h, _⟩ | ⟨r, h, hr⟩)
  · cases h
  · simp only [Ent.rd, Option.map_eq_some_iff] at h
    obtain ⟨r', _, rfl⟩ := h
    exact hr
theorem Ent.rdA (e : Ent) (k : Nat) : e.rd.A k ↔ e.A k := by
  unfold Ent.A Ent.rd
  constructor
  · rintro (h | ⟨r, h, hr⟩)
    · exact .inl h
    · simp only [Option.map_eq_some_iff] at h
      obtain ⟨r', h1, rfl⟩ := h
      exact .inr ⟨r', h1, by rcases hr with hr | hr; exact hr.elim; exact hr⟩
  · rintro (h | ⟨r, h, hr⟩)
    · exact .inl h
    · exact .inr ⟨r.rd, by rw [h]; rfl, .inr hr⟩
theorem Ent.rdOk (e : Ent) (w : World) : e.rd.Ok w ↔ e.Ok w := by
  unfold Ent.Ok Ent.rd
  constructor
  · rintro ⟨h1, h2⟩
    exact ⟨h1, fun r hr => h2 r.rd (by rw [hr]; rfl)⟩
  · rintro ⟨h1, h2⟩
    refine ⟨h1, fun r hr => ?_⟩
    simp only [Option.map_eq_some_iff] at hr
    obtain ⟨r', h3, rfl⟩ := hr
    exact h2 r' h3
/-- what a round may count on -/
structure BothP (e0 e : Ent) (l : Nat) (o : Obj) (F : List Ent) (u : World) : Prop where
  ok : e.Ok u
  lp : u.heap[l]? = some o
  fr : ∀ f ∈ F, f.Ok u
  ap : ∀ f ∈ F, Apart e f
  fl : ∀ f ∈ F, ¬ f.A l
  el : ¬ e.A l
  e0 : ∀ k, e.A k → e0.A k ∨ l < k
/-- an entry and entries that are only read, «as» a thing that is held -/
def both (e0 e : Ent) (l : Nat) (o : Obj) (F : List Ent) : Res where
  w k := e.W k ∨ k = l
  r k := e.A k ∨ ∃ f ∈ F, f.A k
  p u := BothP e0 e l o F u
  st u v h := fun hp => ⟨hp.ok.same fun k hk => h k (.inr (.inl hk)), (h l (.inl (.inr rfl))).trans hp.lp, fun f hf => (hp.fr f hf).same fun k hk => h k (.inr (.inr ⟨f, hf, hk⟩)), hp.ap, hp.fl, hp.el, hp.e0⟩
  bd u := fun hp k hk => by
    rcases hk with (hk | rfl) | hk | ⟨f, hf, hk⟩
    · exact hp.ok.lt hk.a
    · exact (Array.getElem?_eq_some_iff.1 hp.lp).1
    · exact hp.ok.lt hk
    · exact (hp.fr f hf).lt hk
def putPs (N : Nat) : List Tmp → List Value → Fr → Fr
  | p :: ps, v :: vs, σ => putPs N ps vs (put N (some p) v σ)
  | _, _, σ => σ
theorem putPs_fits {N : Nat} {D : List Deferred} (ps : List Tmp) : ∀ (vs : List Value) (σ : Fr) (L L' : List Ent) (a : Act), Fits N ⟨σ, L, D⟩ a → Fits N ⟨putPs N ps vs σ, L', []⟩ { tmps := (ps.zip vs).foldl (fun t (p, v) => t.setIfInBounds p v) a.tmps, defers := [] } := by
  induction ps with
  | nil => intro vs σ L L' a h; exact ⟨h.size, rfl, h.slot⟩
  | cons p ps ih =>
    intro vs σ L L' a h
    cases vs with
    | nil => exact ⟨h.size, rfl, h.slot⟩
    | cons v vs =>
      have := ih vs _ L L' (a.put (some p) v) (h.put (some p) v L)
      exact this
/-- how a round's body is left -/
def roundK {I α β : Type} (E : I → α → Ent) (S : β → Ent × Code) (l : Nat) (busy : Obj) (B : World) (e : Ent) (j : I) : Exit → Sy → Prop := fun x s => match x with
  | .normal => ∃ y, Sub [E j y, ⟨l, some busy, false, none⟩] s.L ∧ ∀ b, (E j y).A b → e.A b ∨ B.heap.size ≤ b
  | .ret => ∃ y, (S y).2 = .ret ∧ Sub [(S y).1, ⟨l, some busy, false, none⟩] s.L ∧ ∀ b, (S y).1.A b → e.A b ∨ B.heap.size ≤ b
  | .exit id => ∃ y, (S y).2 = .exit id ∧ Sub [(S y).1, ⟨l, some busy, false, none⟩] s.L ∧ ∀ b, (S y).1.A b → e.A b ∨ B.heap.size ≤ b
  | _ => False
/-- the body is begun -/
def beginK (C : Cx) (body : Code) (K : Exit → Sy → Prop) (l n : Nat) (ready busy : Obj) : Exit → Sy → Prop := fun x s => match x with
  | .normal => s.L[n]? = some ⟨l, some ready, false, none⟩ ∧ cx C body K ⟨s.σ, s.L.set n ⟨l, some busy, false, none⟩, s.D⟩
  | _ => False
/-- a round's end: what was held has turned -/
theorem round_turn {l : Nat} {e0 e e' : Ent} {o o' o'' : Obj} {F : List Ent} {w w' : World} (hp : BothP e0 e l o F w) (hs : St [fun b => b = l ∨ e.W b] w w' [e', ⟨l, some o', false, none⟩]) (hA : ∀ b, e'.A b → e.A b ∨ w.heap.size ≤ b) :
    Turns w (w'.putObj l o'') (both e0 e l o F) (both e0 e' l o'' F) := by
  have hl := (Array.getElem?_eq_some_iff.1 hp.lp).1
  have hl' := hs.nth (k := 1) rfl
  have hlt' := (Array.getElem?_eq_some_iff.1 hl').1
  have hel : ¬ e'.A l := by
    have := hs.apart
    simp only [List.pairwise_cons, List.mem_singleton, forall_eq] at this
    exact fun h => (this.1 l).2 (by simp) h
  have hW : ∀ b, e'.W b → w.heap.size ≤ b ∨ e.W b := fun b hb => by
    rcases hs.ownW e' (by simp) b hb with h | h
    · exact .inl h
    · simp only [inM_cons, inM_nil, or_false] at h
      rcases h with rfl | h
      · exact absurd hb.a hel
      · exact .inr h
  have hold : ∀ k, k < w.heap.size → ¬ (e.W k ∨ k = l) → (w'.putObj l o'').heap[k]? = w.heap[k]? := fun k hk hn =>
    (World.putObj_heap_other (fun h => hn (.inr h))).trans (hs.old k hk (by simp only [inM_cons, inM_nil, or_false]; rintro (h | h); exact hn (.inr h); exact hn (.inl h)))
  have hfr : ∀ f ∈ F, ∀ k, f.A k → k < w.heap.size ∧ ¬ (e.W k ∨ k = l) := fun f hf k hk => ⟨(hp.fr f hf).lt hk, by rintro (h | rfl); exact (hp.ap f hf k).1 h hk; exact hp.fl f hf hk⟩
  refine ⟨hs.os, hs.tape, hs.output, by rw [World.putObj_size]; exact hs.size, hold, ⟨?_, World.putObj_heap_same hlt', ?_, ?_, hp.fl, hel, ?_⟩, ?_, ?_⟩
  · exact (hs.ok e' (by simp)).same fun k hk => World.putObj_heap_other fun h => hel (h ▸ hk)
  · exact fun f hf => (hp.fr f hf).same fun k hk => hold k (hfr f hf k hk).1 (hfr f hf k hk).2
  · refine fun f hf k => ⟨fun h1 h2 => ?_, fun h1 h2 => ?_⟩
    · have := hfr f hf k h2
      rcases hW k h1 with h | h
      · omega
      · exact this.2 (.inl h)
    · have := hfr f hf k h1.a
      rcases hA k h2 with h | h
      · exact (hp.ap f hf k).2 h1 h
      · omega
  · intro k hk
    rcases hA k hk with h | h
    · exact hp.e0 k h
    · exact .inr (by omega)
  · rintro k (h | rfl)
    · rcases hW k h with h | h
      · exact .inr h
      · exact .inl (.inl h)
    · exact .inl (.inr rfl)
  · rintro k ((h | rfl) | h | h)
    · rcases hW k h with h | h
      · exact .inr h
      · exact .inl (.inl (.inl h))
    · exact .inl (.inl (.inr rfl))
    · rcases hA k h with h | h
      · exact .inl (.inr (.inl h))
      · exact .inr h
    · exact .inl (.inr (.inr h))
def exitOf : Code → Exit
  | .ret => .ret
  | .exit id => .exit id
  | _ => .normal
abbrev dfe (b : Nat) : Ent := ⟨b, some (.deferred (some [])), false, none⟩
def beginKP (C : Cx) (body : Code) (K : Exit → Sy → Prop) (l n : Nat) (ready busy : Obj) : Exit → Sy → Prop := fun x s => match x with
  | .normal => s.L[n]? = some ⟨l, some ready, false, none⟩ ∧ CodeP C body K ⟨s.σ, s.L.set n ⟨l, some busy, false, none⟩, s.D⟩
  | _ => False
theorem CodeP.mono {C : Cx} {c : Code} {K K' : Exit → Sy → Prop} {s : Sy} (h : ∀ e a w, Holds C (K e) a w → Holds C (K' e) a w) (hc : CodeP C c K s) : CodeP C c K' s := ⟨fun n a w hf hs => wpIn_mono (hc.go n a w hf hs) fun e a w hQ => h e a w hQ⟩
theorem CodeP.imp {C : Cx} {c : Code} {K K' : Exit → Sy → Prop} {s : Sy} (h : ∀ e s, K e s → K' e s) (hc : CodeP C c K s) : CodeP C c K' s := hc.mono fun e a w ⟨s, h1, h2, h3⟩ => ⟨s, h1, h2, h e s h3⟩
/-- a loop over a function, in a function of its own -/
theorem rf' {C : Cx} (hT : TabOk C.P C.T) (hF : C.F = none) {g : Operand} {ps : Array Tmp} {assign body : Code} {K : Exit → Sy → Prop} {σ : Fr} {L : List Ent} {D : List Deferred} {gf : FuncId} {lb : Array Value} {I α β : Type} {i0 : I} {nx : I → List Value → I → Prop} {fin : I → Prop} {H : Res}
    (hcl : callable C.T gf = true) (hg : ev σ g (· = .func (.func gf) #[] lb)) (hit : Itr C.P gf lb.toList i0 nx fin H) (k : Nat) (E : I → α → Ent) (S : β → Ent × Code) (hS : ∀ y, (S y).2 = .ret ∨ ∃ id, (S y).2 = .exit id) (x0 : α) (hk : L[k]? = some (E i0 x0))
    (hH : ∀ w, St C.M C.B w L → H.p w ∧ ∀ b, H.A b → ¬ (E i0 x0).W b) (hps : ∀ i args j, nx i args j → args.length = ps.size)
    (round : ∀ l i args j x w ready busy, nx i args j → CodeP ⟨C.P, C.T, C.N, [fun b => b = l ∨ (E i x).W b], w, some l⟩ assign (beginKP ⟨C.P, C.T, C.N, [fun b => b = l ∨ (E i x).W b], w, some l⟩ body (roundK E S l busy w (E i x) j) l L.length ready busy)
      ⟨putPs C.N ps.toList args σ, (L.map Ent.rd).set k (E i x) ++ [⟨l, some ready, false, none⟩], []⟩)
    (done : ∀ i y b0, fin i → K .normal ⟨σ, L.set k (E i y) ++ [dfe b0], { target := .collected b0, args := #[] } :: D⟩)
    (stop : ∀ y b0, K (exitOf (S y).2) ⟨σ, L.set k (S y).1 ++ [dfe b0], { target := .collected b0, args := #[] } :: D⟩) : CodeP C (.rangeFunc g ps assign body) K ⟨σ, L, D⟩ := by
  refine ⟨fun n a w hf hs => ?_⟩
  have hfence : C.fence = Fence.wide := by unfold Cx.fence; rw [hF]
  rw [hfence]
  have hkl : k < L.length := (List.getElem?_eq_some_iff.1 hk).1
  have hgv : a.eval g = .func (.func gf) #[] lb := hf.fit g _ hg
  obtain ⟨fn0, k1, k2, k3⟩ := entOk_enters (callable_enters hT hcl)
  have k4 : fn0.name ≠ "runtime.NumGoroutine" := by simpa using k2
  have eg : ∀ args w, (callFunc gf args).run C.P w = .ok (.enter gf args) w := by
    intro args w
    cases hb : fn0.body with
    | none => rw [hb] at k3; cases k3
    | some code => simp [callFunc, k1, k4, hb]
  refine wpIn_rangeFunc fun fn hfn => ?_
  obtain ⟨rec, hrec⟩ : ∃ rec : LoopState → Option Code → Loop, rec = fun st pe => { state := st, pending := pe, fn, tmps := a.tmps, params := ps, assign, body, defers := w.heap.size } := ⟨_, rfl⟩
  obtain ⟨W0, hW0⟩ : ∃ W0, W0 = w.alloc (.deferred (some [])) := ⟨_, rfl⟩
  obtain ⟨W1, hW1⟩ : ∃ W1, W1 = W0.alloc (.loop (rec .ready none)) := ⟨_, rfl⟩
  have hz0 : W0.heap.size = w.heap.size + 1 := by rw [hW0]; simp
  have hz1 : W1.heap.size = w.heap.size + 2 := by rw [hW1]; simp [hz0]
  have hs0 : St C.M C.B W0 (L ++ [dfe w.heap.size]) := by rw [hW0]; exact hs.alloc _
  have hL1 : W1.heap[w.heap.size + 1]? = some (.loop (rec .ready none)) := by rw [hW1, ← hz0]; exact heap_alloc_new W0 _
  have hs1 : St C.M C.B W1 (L ++ [dfe w.heap.size]) := by rw [hW1]; exact hs0.call (below_alloc1 W0 _)
  have hk1 : (L ++ [dfe w.heap.size])[k]? = some (E i0 x0) := by rw [List.getElem?_append_left hkl]; exact hk
  obtain ⟨F, hFF⟩ : ∃ F, F = (L ++ [dfe w.heap.size]).set k dead := ⟨_, rfl⟩
  have hF1 : ∀ f ∈ F, f = dead ∨ ∃ i, i ≠ k ∧ (L ++ [dfe w.heap.size])[i]? = some f := fun f hf => by rw [hFF] at hf; exact mem_set_cases hf
  have hFl : ∀ f ∈ F, ∀ j, f.A j → j < w.heap.size + 1 := fun f hf j hj => by
    rcases hF1 f hf with rfl | ⟨i, hi, hm⟩
    · simp at hj
    · have := hs0.ltA (List.mem_of_getElem? hm) hj; omega
  have hEl : ∀ j, (E i0 x0).A j → j < w.heap.size := fun j hj => hs.ltA (List.mem_of_getElem? hk) hj
  have hp0 : BothP (E i0 x0) (E i0 x0) (w.heap.size + 1) (.loop (rec .ready none)) F W1 := by
    refine ⟨hs1.ok _ (List.mem_of_getElem? hk1), hL1, fun f hf => ?_, fun f hf => ?_, fun f hf hj => ?_, fun hj => ?_, fun j hj => .inl hj⟩
    · rcases hF1 f hf with rfl | ⟨i, hi, hm⟩
      · simp
      · exact hs1.ok f (List.mem_of_getElem? hm)
    · rcases hF1 f hf with rfl | ⟨i, hi, hm⟩
      · exact (dead_apart _).symm
      · exact pw_ne hs1.apart hk1 hm (fun e => hi e.symm)
    · have := hFl f hf _ hj; omega
    · have := hEl _ hj; omega
  refine ⟨w.heap.size + 1, [{ target := .collected w.heap.size, args := #[] }], W1, { target := .fn (.func gf) lb, args := #[.func (.yield (w.heap.size + 1)) #[] #[]] }, W1, gf,
    #[.func (.yield (w.heap.size + 1)) #[] #[]] ++ lb, W1, ?_, ?_, fun _ _ => trivial, ?_, fun h => (by cases h), ?_⟩
  · rw [hW1, hW0, hrec]; exact run_enterLoop_outer _ _ _ _ _
  · simp only [resolve, hgv]
    simp [go_sem]
  · simp [invoke, go_sem, eg]
  · have hcall := hit.go (w.heap.size + 1) α β (fun i x => both (E i0 x0) (E i x) (w.heap.size + 1) (.loop (rec .ready none)) F) (fun y => both (E i0 x0) (S y).1 (w.heap.size + 1) (.loop (rec .done (some (S y).2))) F) W1 x0 hp0
      (H.st w W1 (fun j hj => by
        have hjl := H.bd w (hH w hs).1 j hj
        rw [hW1, hW0, Below.heap_alloc _ _ _ (by simp; omega), Below.heap_alloc _ _ _ hjl]) (hH w hs).1)
      (fun b hb hn => by
        rcases hn with h | h
        · exact (hH w hs).2 b hb h
        · have := H.bd w (hH w hs).1 b hb; omega) ?_
    · have e1 : (Value.func (.yield (w.heap.size + 1)) #[] #[] :: lb.toList).toArray = #[.func (.yield (w.heap.size + 1)) #[] #[]] ++ lb := by apply Array.ext'; simp
      rw [e1] at hcall
      refine ((callsIn_wide (n := n - 1)).2 hcall).mono ?_
      have fin' : ∀ (e' : Ent) (st : LoopState) (pe : Option Code) (W' : World), st ≠ .busy → Turns W1 W' (both (E i0 x0) (E i0 x0) (w.heap.size + 1) (.loop (rec .ready none)) F) (both (E i0 x0) e' (w.heap.size + 1) (.loop (rec st pe)) F) →
          ∃ w4, (Instr.endLoop (w.heap.size + 1)).run C.P W' = .ok pe w4 ∧ St C.M C.B w4 (L.set k e' ++ [dfe w.heap.size]) := by
        intro e' st pe W' hst ht
        have hp := ht.ok
        refine ⟨W'.putObj (w.heap.size + 1) (.loop { rec st pe with state := .exhausted }), by have := run_endLoop (P := C.P) hp.lp (by rw [hrec]; exact hst); subst hrec; exact this, ?_⟩
        have e2 : L.set k e' ++ [dfe w.heap.size] = (L ++ [dfe w.heap.size]).set k e' := by rw [List.set_append_left _ _ hkl]
        rw [e2]
        refine hs1.upd2 hk1 (by rw [World.putObj_size]; exact ht.size) (hp.ok.same fun j hj => World.putObj_heap_other fun h => hp.el (h ▸ hj)) (fun j hj hn ho => ?_) ht.os ht.tape ht.output (fun j hj => ?_) (fun j hj => ?_)
        · have hjl : j ≠ w.heap.size + 1 := by
            rcases ho with h | ⟨f, hf', h⟩
            · have := hs.size; omega
            · have := hFl f (hFF ▸ hf') j h; omega
          refine (World.putObj_heap_other hjl).trans (ht.old j hj ?_)
          rintro (h | h)
          · exact hn h
          · exact hjl h
        · rcases ht.W j (.inl hj) with (h | rfl) | h
          · exact .inl h
          · exact absurd hj.a hp.el
          · exact .inr h
        · rcases hp.e0 j hj with h | h
          · exact .inl h
          · exact .inr (by omega)
      rintro e W' ⟨⟨v, rfl⟩, ⟨i, y, hfi, ht⟩ | ⟨y, ht⟩⟩
      · obtain ⟨w4, hr, hs4⟩ := fin' _ _ _ W' (by simp) ht
        exact ⟨none, w4, hr, ⟨⟨σ, L.set k (E i y) ++ [dfe w.heap.size], { target := .collected w.heap.size, args := #[] } :: D⟩, ⟨hf.size, congrArg (_ :: ·) hf.defers, hf.slot⟩, hs4, done i y _ hfi⟩⟩
      · obtain ⟨w4, hr, hs4⟩ := fin' _ _ _ W' (by simp) ht
        refine ⟨some (S y).2, w4, hr, ?_⟩
        have hK := stop y w.heap.size
        rcases hS y with h | ⟨id, h⟩
        · rw [h] at hK ⊢
          exact wpIn_ret ⟨⟨σ, L.set k (S y).1 ++ [dfe w.heap.size], { target := .collected w.heap.size, args := #[] } :: D⟩, ⟨hf.size, congrArg (_ :: ·) hf.defers, hf.slot⟩, hs4, hK⟩
        · rw [h] at hK ⊢
          exact wpIn_exit ⟨⟨σ, L.set k (S y).1 ++ [dfe w.heap.size], { target := .collected w.heap.size, args := #[] } :: D⟩, ⟨hf.size, congrArg (_ :: ·) hf.defers, hf.slot⟩, hs4, hK⟩
    · intro i args j x u hn hp m
      have hpz := hps i args j hn
      have hy := run_yield (P := C.P) (args := args.toArray) hp.lp (by rw [hrec]; simpa using hpz)
      rw [hrec] at hy
      refine ⟨fn, _, assign, body, hy, roundIn_of_wpIn hfn ?_⟩
      have e3 : ((ps.zip args.toArray).foldl (fun t (p, v) => t.setIfInBounds p v) a.tmps) = ((ps.toList.zip args).foldl (fun t (p, v) => t.setIfInBounds p v) a.tmps) := by
        rw [← Array.foldl_toList]; simp
      have hfit := putPs_fits ps.toList args σ L ((L.map Ent.rd).set k (E i x) ++ [⟨w.heap.size + 1, some (.loop (rec .ready none)), false, none⟩]) a hf
      have hst : St [fun b => b = w.heap.size + 1 ∨ (E i x).W b] u u ((L.map Ent.rd).set k (E i x) ++ [⟨w.heap.size + 1, some (.loop (rec .ready none)), false, none⟩]) := by
        have hmem : ∀ f ∈ (L.map Ent.rd).set k (E i x), f = E i x ∨ ∃ f' ∈ F, f = f'.rd := by
          intro f hf
          rcases mem_set_cases hf with rfl | ⟨i', hi, hm⟩
          · exact .inl rfl
          · right
            rw [List.getElem?_map, Option.map_eq_some_iff] at hm
            obtain ⟨f', hm, rfl⟩ := hm
            have hil := (List.getElem?_eq_some_iff.1 hm).1
            exact ⟨f', by rw [hFF]; exact List.mem_of_getElem? (i := i') (by rw [List.getElem?_set_ne (fun e => hi e.symm), List.getElem?_append_left hil]; exact hm), rfl⟩
        refine St.from u _ _ (fun f hf => ?_) ?_
        · rcases List.mem_append.1 hf with hf | hf
          · rcases hmem f hf with rfl | ⟨f', hf', rfl⟩
            · exact ⟨hp.ok, fun b hb => by simp [hb]⟩
            · exact ⟨(Ent.rdOk _ _).2 (hp.fr f' hf'), fun b hb => absurd hb (Ent.rdW _ _)⟩
          · obtain rfl : f = ⟨w.heap.size + 1, some (.loop (rec .ready none)), false, none⟩ := by simpa using hf
            exact ⟨by simpa using hp.lp, fun b hb => by simp at hb; simp [hb]⟩
        · refine List.pairwise_append.2 ⟨pw_set ?_ ?_, by simp, ?_⟩
          · rw [List.pairwise_map]
            exact List.pairwise_of_forall (fun x y b => ⟨fun h => absurd h (Ent.rdW _ _), fun h => absurd h (Ent.rdW _ _)⟩)
          · intro i' f hi hm
            rw [List.getElem?_map, Option.map_eq_some_iff] at hm
            obtain ⟨f', hm, rfl⟩ := hm
            have hil := (List.getElem?_eq_some_iff.1 hm).1
            have hf' : f' ∈ F := by rw [hFF]; exact List.mem_of_getElem? (i := i') (by rw [List.getElem?_set_ne (fun e => hi e.symm), List.getElem?_append_left hil]; exact hm)
            exact fun b => ⟨fun h1 h2 => (hp.ap f' hf' b).1 h1 ((Ent.rdA _ _).1 h2), fun h1 => absurd h1 (Ent.rdW _ _)⟩
          · intro f hf y hy
            obtain rfl : y = ⟨w.heap.size + 1, some (.loop (rec .ready none)), false, none⟩ := by simpa using hy
            rcases hmem f hf with rfl | ⟨f', hf', rfl⟩
            · exact fun b => ⟨fun h1 h2 => by simp at h2; subst h2; exact hp.el h1.a, fun h1 h2 => by simp at h1; subst h1; exact hp.el h2⟩
            · exact fun b => ⟨fun h1 => absurd h1 (Ent.rdW _ _), fun h1 h2 => by simp at h1; subst h1; exact hp.fl f' hf' ((Ent.rdA _ _).1 h2)⟩
      have hcx := round (w.heap.size + 1) i args j x u (.loop (rec .ready none)) (.loop (rec .busy none)) hn
      rw [e3]
      refine wpIn_mono (hcx.go m _ u hfit hst) ?_
      rintro e a1 w1 ⟨s1, hf1, hs1', hb⟩
      cases e with
      | normal =>
        obtain ⟨hb1, hb2⟩ := hb
        have hl1 := hs1'.nth hb1
        refine ⟨w1.putObj (w.heap.size + 1) (.loop (rec .busy none)), by have := run_beginRound (P := C.P) hl1 (by rw [hrec]); subst hrec; exact this, ?_⟩
        have hs2 := hs1'.put (o' := .loop (rec .busy none)) hb1
        refine wpIn_mono (hb2.go m a1 _ ⟨hf1.size, hf1.defers, hf1.slot⟩ hs2) ?_
        rintro e a3 w3 ⟨s3, hf3, hs3, hb3⟩
        cases e with
        | normal =>
          obtain ⟨y, hsub, hA⟩ := hb3
          have h3 := hs3.sub hsub
          have hr := run_endRound (P := C.P) none (h3.nth (k := 1) rfl)
          refine ⟨_, _, hr, .inl ⟨rfl, y, ?_⟩⟩
          have := round_turn (o'' := .loop (rec .ready none)) hp h3 hA
          rw [hrec] at this ⊢; exact this
        | ret =>
          obtain ⟨y, hy, hsub, hA⟩ := hb3
          have h3 := hs3.sub hsub
          have hr := run_endRound (P := C.P) (some .ret) (h3.nth (k := 1) rfl)
          refine ⟨_, _, hr, .inr ⟨rfl, y, ?_⟩⟩
          have := round_turn (o'' := .loop (rec .done (some .ret))) hp h3 hA
          rw [hy]
          rw [hrec] at this ⊢; exact this
        | exit id =>
          obtain ⟨y, hy, hsub, hA⟩ := hb3
          have h3 := hs3.sub hsub
          have hr := run_endRound (P := C.P) (some (.exit id)) (h3.nth (k := 1) rfl)
          refine ⟨_, _, hr, .inr ⟨rfl, y, ?_⟩⟩
          have := round_turn (o'' := .loop (rec .done (some (.exit id)))) hp h3 hA
          rw [hy]
          rw [hrec] at this ⊢; exact this
        | goto t => exact hb3.elim
        | panic ch => exact hb3.elim
        | outgrown => exact hb3.elim
      | _ => exact hb.elim
/-- a loop over a function, in a function of its own; its rounds in symbolic steps -/
theorem rf {C : Cx} (hT : TabOk C.P C.T) (hF : C.F = none) {g : Operand} {ps : Array Tmp} {assign body : Code} {K : Exit → Sy → Prop} {σ : Fr} {L : List Ent} {D : List Deferred} {gf : FuncId} {lb : Array Value} {I α β : Type} {i0 : I} {nx : I → List Value → I → Prop} {fin : I → Prop} {H : Res}
    (hcl : callable C.T gf = true) (hg : ev σ g (· = .func (.func gf) #[] lb)) (hit : Itr C.P gf lb.toList i0 nx fin H) (k : Nat) (E : I → α → Ent) (S : β → Ent × Code) (hS : ∀ y, (S y).2 = .ret ∨ ∃ id, (S y).2 = .exit id) (x0 : α) (hk : L[k]? = some (E i0 x0))
    (hH : ∀ w, St C.M C.B w L → H.p w ∧ ∀ b, H.A b → ¬ (E i0 x0).W b) (hps : ∀ i args j, nx i args j → args.length = ps.size)
    (round : ∀ l i args j x w ready busy, nx i args j → cx ⟨C.P, C.T, C.N, [fun b => b = l ∨ (E i x).W b], w, some l⟩ assign (beginK ⟨C.P, C.T, C.N, [fun b => b = l ∨ (E i x).W b], w, some l⟩ body (roundK E S l busy w (E i x) j) l L.length ready busy)
      ⟨putPs C.N ps.toList args σ, (L.map Ent.rd).set k (E i x) ++ [⟨l, some ready, false, none⟩], []⟩)
    (done : ∀ i y b0, fin i → K .normal ⟨σ, L.set k (E i y) ++ [dfe b0], { target := .collected b0, args := #[] } :: D⟩)
    (stop : ∀ y b0, K (exitOf (S y).2) ⟨σ, L.set k (S y).1 ++ [dfe b0], { target := .collected b0, args := #[] } :: D⟩) : CodeP C (.rangeFunc g ps assign body) K ⟨σ, L, D⟩ := by
  refine rf' hT hF hcl hg hit k E S hS x0 hk hH hps (fun l i args j x w ready busy hn => ?_) done stop
  refine (cx_ok (C := ⟨C.P, C.T, C.N, [fun b => b = l ∨ (E i x).W b], w, some l⟩) hT assign _ _ (round l i args j x w ready busy hn)).imp fun e s h => ?_
  cases e with
  | normal => exact ⟨h.1, cx_ok (C := ⟨C.P, C.T, C.N, [fun b => b = l ∨ (E i x).W b], w, some l⟩) hT body _ _ h.2⟩
  | _ => exact h.elim
end Go.Sx
end
section
namespace Go.Sx
open Go Go.RowKit
set_option linter.unusedVariables false

/-- several entries «as» one thing that is held -/
def mres (es : List Ent) : Res where
  w k := ∃ e ∈ es, e.W k
  r k := ∃ e ∈ es, e.A k
  p u := (∀ e ∈ es, e.Ok u) ∧ es.Pairwise Apart
  st u v h := fun ⟨h1, h2⟩ => ⟨fun e he => (h1 e he).same fun k hk => h k (.inr ⟨e, he, hk⟩), h2⟩
  bd u := fun ⟨h1, h2⟩ k hk => by
    rcases hk with ⟨e, he, hk⟩ | ⟨e, he, hk⟩
    · exact (h1 e he).lt hk.a
    · exact (h1 e he).lt hk
theorem mresW (es : List Ent) (k : Nat) : (rs (mres es)).W k ↔ ∃ e ∈ es, e.W k := by simp [mres]
theorem mresA (es : List Ent) (k : Nat) : (rs (mres es)).A k ↔ ∃ e ∈ es, e.A k := by
  simp only [rsA, mres]
  exact ⟨fun h => h.elim (fun ⟨e, he, h⟩ => ⟨e, he, h.a⟩) id, .inr⟩
theorem mres_apart (x : Ent) (es : List Ent) : Apart x (rs (mres es)) ↔ ∀ e ∈ es, Apart x e := by
  constructor
  · exact fun h e he k => ⟨fun h1 h2 => (h k).1 h1 ((mresA es k).2 ⟨e, he, h2⟩), fun h1 h2 => (h k).2 ((mresW es k).2 ⟨e, he, h1⟩) h2⟩
  · exact fun h k => ⟨fun h1 h2 => by obtain ⟨e, he, h2⟩ := (mresA es k).1 h2; exact (h e he k).1 h1 h2, fun h1 h2 => by obtain ⟨e, he, h1⟩ := (mresW es k).1 h1; exact (h e he k).2 h1 h2⟩
section
variable {M : Bks} {B w : World} {X Y es : List Ent}
theorem St.pack (h : St M B w (X ++ es ++ Y)) : St M B w (X ++ [rs (mres es)] ++ Y) := by
  have hp := h.apart
  rw [List.append_assoc, List.pairwise_append, List.pairwise_append] at hp
  refine ⟨h.os, h.tape, h.output, h.size, h.old, ?_, ?_, ?_⟩
  · intro e he
    simp only [List.mem_append, List.mem_singleton] at he
    rcases he with (he | rfl) | he
    · exact h.ok e (by simp [he])
    · exact (rsOk _ _).2 ⟨fun e he => h.ok e (by simp [he]), hp.2.1.1⟩
    · exact h.ok e (by simp [he])
  · intro e he k hk
    simp only [List.mem_append, List.mem_singleton] at he
    rcases he with (he | rfl) | he
    · exact h.ownW e (by simp [he]) k hk
    · obtain ⟨e, he, hk⟩ := (mresW es k).1 hk; exact h.ownW e (by simp [he]) k hk
    · exact h.ownW e (by simp [he]) k hk
  · rw [List.append_assoc, List.pairwise_append, List.pairwise_append]
    refine ⟨hp.1, ⟨by simp, hp.2.1.2.1, ?_⟩, ?_⟩
    · intro a ha b hb
      obtain rfl : a = _ := by simpa using ha
      exact ((mres_apart b es).2 fun e he => (hp.2.1.2.2 e he b hb).symm).symm
    · intro a ha b hb
      simp only [List.mem_append, List.mem_singleton] at hb
      rcases hb with rfl | hb
      · exact (mres_apart a es).2 fun e he => hp.2.2 a ha e (by simp [he])
      · exact hp.2.2 a ha b (by simp [hb])
theorem St.unpack (h : St M B w (X ++ [rs (mres es)] ++ Y)) : St M B w (X ++ es ++ Y) := by
  have hp := h.apart
  rw [List.append_assoc, List.pairwise_append, List.pairwise_append] at hp
  have hm := (rsOk _ _).1 (h.ok (rs (mres es)) (by simp))
  refine ⟨h.os, h.tape, h.output, h.size, h.old, ?_, ?_, ?_⟩
  · intro e he
    simp only [List.mem_append] at he
    rcases he with (he | he) | he
    · exact h.ok e (by simp [he])
    · exact hm.1 e he
    · exact h.ok e (by simp [he])
  · intro e he k hk
    simp only [List.mem_append] at he
    rcases he with (he | he) | he
    · exact h.ownW e (by simp [he]) k hk
    · exact h.ownW (rs (mres es)) (by simp) k ((mresW es k).2 ⟨e, he, hk⟩)
    · exact h.ownW e (by simp [he]) k hk
  · rw [List.append_assoc, List.pairwise_append, List.pairwise_append]
    refine ⟨hp.1, ⟨hm.2, hp.2.1.2.1, ?_⟩, ?_⟩
    · intro a ha b hb
      exact ((mres_apart b es).1 (hp.2.1.2.2 _ (by simp) b hb).symm a ha).symm
    · intro a ha b hb
      simp only [List.mem_append] at hb
      rcases hb with hb | hb
      · exact (mres_apart a es).1 (hp.2.2 a ha _ (by simp)) b hb
      · exact hp.2.2 a ha b (by simp [hb])
theorem St.perm {L L' : List Ent} (h : St M B w L) (hp : L'.Perm L) : St M B w L' :=
  ⟨h.os, h.tape, h.output, h.size, h.old, fun e he => h.ok e (hp.mem_iff.1 he), fun e he => h.ownW e (hp.mem_iff.1 he), (hp.pairwise_iff (fun {a b} h => Apart.symm h)).2 h.apart⟩
theorem St.pad {L : List Ent} (h : St M B w L) (n : Nat) : St M B w (List.replicate n dead ++ L) := by
  induction n with
  | zero => exact h
  | succ n ih => exact ih.deads.perm (by rw [List.replicate_succ, List.cons_append]; exact (List.perm_append_singleton _ _).symm)
theorem Sub.padL (n : Nat) (L : List Ent) : Sub L (List.replicate n Sx.dead ++ L) := by
  induction n with
  | zero => exact Sub.refl L
  | succ n ih => exact .drop ih
end
/-- the known things are named otherwise -/
theorem CodeP.from {C : Cx} {c : Code} {K : Exit → Sy → Prop} {σ : Fr} {L L' : List Ent} {D : List Deferred} (h : ∀ w, St C.M C.B w L → St C.M C.B w L') (hc : CodeP C c K ⟨σ, L', D⟩) : CodeP C c K ⟨σ, L, D⟩ := ⟨fun n a w hf hs => hc.go n a w ⟨hf.size, hf.defers, hf.slot⟩ (h w hs)⟩
theorem LoopP.from {C : Cx} {c : Code} {K : Exit → Sy → Prop} {σ : Fr} {L L' : List Ent} {D : List Deferred} (h : ∀ w, St C.M C.B w L → St C.M C.B w L') (hc : LoopP C c K ⟨σ, L', D⟩) : LoopP C c K ⟨σ, L, D⟩ := ⟨fun n a w hf hs => hc.go n a w ⟨hf.size, hf.defers, hf.slot⟩ (h w hs)⟩
/-- how a round's body is left -/
def roundM {I α β : Type} (E : I → α → List Ent) (S : β → List Ent × Code) (l : Nat) (busy : Obj) (B : World) (es : List Ent) (j : I) : Exit → Sy → Prop := fun x s => match x with
  | .normal => ∃ y, Sub (E j y ++ [⟨l, some busy, false, none⟩]) s.L ∧ ∀ e ∈ E j y, ∀ b, e.A b → (∃ f ∈ es, f.A b) ∨ B.heap.size ≤ b
  | .ret => ∃ y, (S y).2 = .ret ∧ Sub ((S y).1 ++ [⟨l, some busy, false, none⟩]) s.L ∧ ∀ e ∈ (S y).1, ∀ b, e.A b → (∃ f ∈ es, f.A b) ∨ B.heap.size ≤ b
  | .exit id => ∃ y, (S y).2 = .exit id ∧ Sub ((S y).1 ++ [⟨l, some busy, false, none⟩]) s.L ∧ ∀ e ∈ (S y).1, ∀ b, e.A b → (∃ f ∈ es, f.A b) ∨ B.heap.size ≤ b
  | _ => False
theorem hold_pack {C : Cx} {a : Act} {w : World} {s : Sy} {es : List Ent} {e : Ent} {k : Exit → Sy → Prop} {x : Exit} (hf : Fits C.N s a) (hs : St C.M C.B w s.L) (hb : Sub (es ++ [e]) s.L) (h : ∀ s', s'.L = [rs (mres es), e] → k x s') : Holds C (k x) a w :=
  ⟨⟨s.σ, [rs (mres es), e], s.D⟩, ⟨hf.size, hf.defers, hf.slot⟩, (show St C.M C.B w ([] ++ es ++ [e]) from hs.sub hb).pack, h _ rfl⟩
theorem round_pack {C : Cx} {I α β : Type} {E : I → α → List Ent} {S : β → List Ent × Code} {l : Nat} {busy : Obj} {es : List Ent} {j : I} (x : Exit) (a : Act) (w : World) (h : Holds C (roundM E S l busy C.B es j x) a w) : Holds C (roundK (fun i y => rs (mres (E i y))) (fun y => (rs (mres (S y).1), (S y).2)) l busy C.B (rs (mres es)) j x) a w := by
  obtain ⟨s, hf, hs, hr⟩ := h
  have hA : ∀ e1 : List Ent, (∀ e ∈ e1, ∀ b, e.A b → (∃ f ∈ es, f.A b) ∨ C.B.heap.size ≤ b) → ∀ b, (rs (mres e1)).A b → (rs (mres es)).A b ∨ C.B.heap.size ≤ b := by
    intro e1 h1 b hb
    obtain ⟨e, he, hb⟩ := (mresA _ _).1 hb
    exact (h1 e he b hb).imp (mresA _ _).2 id
  cases x with
  | normal => obtain ⟨y, h1, h2⟩ := hr; exact hold_pack (k := roundK (fun i y => rs (mres (E i y))) (fun y => (rs (mres (S y).1), (S y).2)) l busy C.B (rs (mres es)) j) hf hs h1 fun s' e => ⟨y, by rw [e]; exact .cons (.cons .nil), hA _ h2⟩
  | ret => obtain ⟨y, h0, h1, h2⟩ := hr; exact hold_pack (k := roundK (fun i y => rs (mres (E i y))) (fun y => (rs (mres (S y).1), (S y).2)) l busy C.B (rs (mres es)) j) hf hs h1 fun s' e => ⟨y, h0, by rw [e]; exact .cons (.cons .nil), hA _ h2⟩
  | exit id => obtain ⟨y, h0, h1, h2⟩ := hr; exact hold_pack (k := roundK (fun i y => rs (mres (E i y))) (fun y => (rs (mres (S y).1), (S y).2)) l busy C.B (rs (mres es)) j) hf hs h1 fun s' e => ⟨y, h0, by rw [e]; exact .cons (.cons .nil), hA _ h2⟩
  | _ => exact hr.elim
/-- a loop over a function, in a function of its own: the last entries are those that turn -/
theorem rfm {C : Cx} (hT : TabOk C.P C.T) (hF : C.F = none) {g : Operand} {ps : Array Tmp} {assign body : Code} {K : Exit → Sy → Prop} {σ : Fr} {L0 L : List Ent} {D : List Deferred} {gf : FuncId} {lb : Array Value} {I α β : Type} {i0 : I} {nx : I → List Value → I → Prop} {fin : I → Prop} {H : Res}
    (hcl : callable C.T gf = true) (hg : ev σ g (· = .func (.func gf) #[] lb)) (hit : Itr C.P gf lb.toList i0 nx fin H) (E : I → α → List Ent) (S : β → List Ent × Code) (hS : ∀ y, (S y).2 = .ret ∨ ∃ id, (S y).2 = .exit id) (x0 : α) (hL : (L0 ++ E i0 x0).Perm L)
    (hH : ∀ w, St C.M C.B w (L0 ++ E i0 x0) → H.p w ∧ ∀ b, H.A b → ∀ e ∈ E i0 x0, ¬ e.W b) (hps : ∀ i args j, nx i args j → args.length = ps.size)
    (round : ∀ l i args j x w ready busy, nx i args j → cx ⟨C.P, C.T, C.N, [fun b => b = l ∨ ∃ e ∈ E i x, e.W b], w, some l⟩ assign (beginK ⟨C.P, C.T, C.N, [fun b => b = l ∨ ∃ e ∈ E i x, e.W b], w, some l⟩ body (roundM E S l busy w (E i x) j) l (L0.length + (E i x).length) ready busy)
      ⟨putPs C.N ps.toList args σ, L0.map Ent.rd ++ E i x ++ [⟨l, some ready, false, none⟩], []⟩)
    (done : ∀ i y b0, fin i → K .normal ⟨σ, L0 ++ E i y ++ [dfe b0], { target := .collected b0, args := #[] } :: D⟩)
    (stop : ∀ y b0, K (exitOf (S y).2) ⟨σ, L0 ++ (S y).1 ++ [dfe b0], { target := .collected b0, args := #[] } :: D⟩) : CodeP C (.rangeFunc g ps assign body) K ⟨σ, L, D⟩ := by
  refine CodeP.from (L' := L0 ++ [rs (mres (E i0 x0))]) (fun w hs => by simpa using St.pack (Y := []) (by simpa using hs.perm hL)) ?_
  have hset : ∀ e e' : Ent, (L0 ++ [e]).set L0.length e' = L0 ++ [e'] := fun e e' => by simp
  refine CodeP.mono (K := fun x s => ∃ L', (∀ w, St C.M C.B w s.L → St C.M C.B w L') ∧ K x ⟨s.σ, L', s.D⟩) (fun x a w ⟨s, h1, h2, L', h3, h4⟩ => ⟨⟨s.σ, L', s.D⟩, ⟨h1.size, h1.defers, h1.slot⟩, h3 w h2, h4⟩) ?_
  refine rf' hT hF hcl hg hit L0.length (fun i x => rs (mres (E i x))) (fun y => (rs (mres (S y).1), (S y).2)) hS x0 (by simp) (fun w hs => ?_) hps (fun l i args j x w ready busy hn => ?_) (fun i y b0 hf => ?_) (fun y b0 => ?_)
  · have h1 := hH w (by simpa using St.unpack (Y := []) (by simpa using hs))
    exact ⟨h1.1, fun b hb hw => by obtain ⟨e, he, hw⟩ := (mresW _ _).1 hw; exact h1.2 b hb e he hw⟩
  · have hM : (fun b => b = l ∨ (rs (mres (E i x))).W b) = fun b => b = l ∨ ∃ e ∈ E i x, e.W b := by funext b; rw [mresW]
    rw [hM]
    have h1 := cx_ok (C := ⟨C.P, C.T, C.N, [fun b => b = l ∨ ∃ e ∈ E i x, e.W b], w, some l⟩) hT assign _ _ (round l i args j x w ready busy hn)
    refine CodeP.from (L' := L0.map Ent.rd ++ E i x ++ [⟨l, some ready, false, none⟩]) (fun w' hs => ?_) (h1.mono fun e a w' h => ?_)
    · have e1 : (List.map Ent.rd (L0 ++ [rs (mres (E i0 x0))])).set L0.length (rs (mres (E i x))) ++ [⟨l, some ready, false, none⟩] = L0.map Ent.rd ++ [rs (mres (E i x))] ++ [⟨l, some ready, false, none⟩] := by
        rw [List.map_append]; simp [List.set_append_right]
      rw [e1] at hs
      exact hs.unpack
    · obtain ⟨s, hf, hs, h2⟩ := h
      cases e with
      | normal =>
        obtain ⟨h3, h4⟩ := h2
        have h5 := (cx_ok (C := ⟨C.P, C.T, C.N, [fun b => b = l ∨ ∃ e ∈ E i x, e.W b], w, some l⟩) hT body _ _ h4).mono fun e a w' h => round_pack (C := ⟨C.P, C.T, C.N, [fun b => b = l ∨ ∃ e ∈ E i x, e.W b], w, some l⟩) e a w' h
        obtain ⟨hlt, hget⟩ := List.getElem?_eq_some_iff.1 h3
        have hsp : s.L = s.L.take (L0.length + (E i x).length) ++ ⟨l, some ready, false, none⟩ :: s.L.drop (L0.length + (E i x).length + 1) := by
          rw [← hget]; simp
        have hset2 : s.L.set (L0.length + (E i x).length) ⟨l, some busy, false, none⟩ = s.L.take (L0.length + (E i x).length) ++ ⟨l, some busy, false, none⟩ :: s.L.drop (L0.length + (E i x).length + 1) := List.set_eq_take_append_cons_drop.trans (if_pos hlt)
        rw [hset2] at h5
        generalize s.L.take (L0.length + (E i x).length) = A at *
        generalize s.L.drop (L0.length + (E i x).length + 1) = Z at *
        refine ⟨⟨s.σ, List.replicate (L0.length + 1) dead ++ ⟨l, some ready, false, none⟩ :: (A ++ Z), s.D⟩, ⟨hf.size, hf.defers, hf.slot⟩, ?_, ?_, ?_⟩
        · rw [hsp] at hs
          exact (hs.perm List.perm_middle.symm).pad _
        · simp
        · refine CodeP.from (L' := A ++ ⟨l, some busy, false, none⟩ :: Z) (fun w2 hs2 => ?_) h5
          have e2 : (List.replicate (L0.length + 1) dead ++ (⟨l, some ready, false, none⟩ : Ent) :: (A ++ Z)).set (L0 ++ [rs (mres (E i0 x0))]).length ⟨l, some busy, false, none⟩ = List.replicate (L0.length + 1) dead ++ (⟨l, some busy, false, none⟩ : Ent) :: (A ++ Z) := by
            rw [List.set_append_right _ _ (by simp)]; simp
          rw [e2] at hs2
          exact (hs2.sub (Sub.padL _ _)).perm List.perm_middle
      | _ => exact h2.elim
  · refine ⟨L0 ++ E i y ++ [dfe b0], fun w hs => ?_, done i y b0 hf⟩
    rw [hset] at hs
    exact hs.unpack
  · refine ⟨L0 ++ (S y).1 ++ [dfe b0], fun w hs => ?_, stop y b0⟩
    rw [hset] at hs
    exact hs.unpack
/-- append, where there is room -/
theorem apI {C : Cx} {L : List Ent} (k : Nat) (hT : TabOk C.P C.T) {t tx ty e z by' cap b : Nat} {zv : Value} {cs : Array Bool} {xs news j : List Value} {n m : Nat} {x : Value} {next : Value → List Ent → Prop}
    (ht : look C.T.rows t fun y _ => y = .sl e z) (hi : (C.P.info? e).map (fun i => (i.zero, i.size, i.bytes)) = some (some zv, z, by'))
    (hk : L[k]? = some (cl b (xs ++ j).toArray e)) (hn : xs.length = n * z) (hcap : (xs ++ j).length = cap * z) (hroom : n + m ≤ cap) (hsrc : ∀ w, St C.M C.B w L → Src C.P z tx x m news w)
    (go : next (.slice (some ⟨b, 0, none⟩) (n + m) cap) (L.set k (cl b (xs ++ news ++ j.drop news.length).toArray e))) : BiP C .append #[t, tx] ty cs [.slice (some ⟨b, 0, none⟩) n cap, x] L next := by
  refine apRun fun w hs => ?_
  obtain ⟨i0, hi0, hz0', rfl, hz2⟩ := infoOf hi
  have hsr := hsrc w hs
  have hlen : 0 + n * i0.size + news.length ≤ (xs ++ j).toArray.size := by
    rw [hsr.newsLen, List.size_toArray, hcap, Nat.zero_add, ← Nat.add_mul]; exact Nat.mul_le_mul_right _ hroom
  have hrun := run_append_room_src w t tx ty e i0 (slOf hT ht) hi0 b 0 n cap x m news hsr hroom (fun q hq => by
    rw [hs.cell hk]; have : 0 + n * i0.size + q < (xs ++ j).toArray.size := by omega
    simp
    simpa using this) (fun q hq => frozen_of_row w b _ _ e (hs.nth hk))
  refine ⟨_, _, _, hrun, ?_, go⟩
  have := hs.setCells hk (0 + n * i0.size) news hlen
  have e2 : ((xs ++ j).toArray.toList.take (0 + n * i0.size) ++ news ++ (xs ++ j).toArray.toList.drop (0 + n * i0.size + news.length)) = xs ++ news ++ j.drop news.length := by
    rw [Nat.zero_add, ← hn]; simp
  rw [e2] at this
  exact this
theorem apI1 {C : Cx} {L : List Ent} (k kn : Nat) (hT : TabOk C.P C.T) {t ty e by' cap b bn : Nat} {zv v : Value} {cs : Array Bool} {xs j : List Value} {n : Nat} {next : Value → List Ent → Prop}
    (ht : look C.T.rows t fun y _ => y = .sl e 1) (hi : (C.P.info? e).map (fun i => (i.zero, i.size, i.bytes)) = some (some zv, 1, by'))
    (hk : L[k]? = some (cl b (xs ++ j).toArray e)) (hn : xs.length = n) (hcap : (xs ++ j).length = cap) (hroom : n + 1 ≤ cap) (hkn : L[kn]? = some (cl bn #[v] e)) (h1 : v.oneCell' = true)
    (go : next (.slice (some ⟨b, 0, none⟩) (n + 1) cap) (L.set k (cl b (xs ++ [v] ++ j.drop 1).toArray e))) : BiP C .append #[t, t] ty cs [.slice (some ⟨b, 0, none⟩) n cap, .slice (some ⟨bn, 0, none⟩) 1 1] L next :=
  apI (news := [v]) k hT ht hi hk (by omega) (by omega) hroom (srcE ht hT (src kn hkn rfl) rfl (by simpa using h1)) go
theorem ap1 {C : Cx} {L : List Ent} (k kn : Nat) (hT : TabOk C.P C.T) {t ty e by' bn : Nat} {zv v : Value} {cs : Array Bool} {r : Sx.Own} {xs : List Value} {n : Nat} {next : Value → List Ent → Prop}
    (ht : look C.T.rows t fun y _ => y = .sl e 1) (hi : (C.P.info? e).map (fun i => (i.zero, i.size, i.bytes)) = some (some zv, 1, by')) (hz : zv.cells.size = 1)
    (hk : L[k]? = some (se r xs e)) (hR : Rw 1 n r xs) (hkn : L[kn]? = some (cl bn #[v] e)) (h1 : v.oneCell' = true) (hby : (n + 1 + (n + 1) / 4 + 192) * by' ≤ 281474976710656) (h63 : n + 1 ≤ maxLen)
    (go : ∀ r', Rw 1 (n + 1) r' (xs ++ [v]) → next (sv r' (n + 1)) (L.set k (se r' (xs ++ [v]) e))) : BiP C .append #[t, t] ty cs [sv r n, .slice (some ⟨bn, 0, none⟩) 1 1] L next :=
  ap (news := [v]) (m := 1) k hT ht hi hz hk hR (srcE ht hT (src kn hkn rfl) rfl (by simpa using h1)) hby h63 go
/-- a row of zeros is made -/
theorem made1 {P : Program} {t e : TypeId} {zv : Value} {by' : Nat} (w : World) (ht : P.underlying t = some (.slice e)) (hi : (P.info? e).map (fun i => (i.zero, i.size, i.bytes)) = some (some zv, 1, by')) (hzv : zv.cells = #[zv]) (l c : Nat) (hlc : l ≤ c) (hc : c * by' ≤ 100000000) (hc2 : c ≤ 100000000) :
    (Instr.makeSlice t (.int .i64 (l : Int)) (.int .i64 (c : Int))).run P w = .ok (.slice (some ⟨w.heap.size, 0, none⟩) l c) (w.alloc (.cells (List.replicate c zv).toArray e)) := by
  obtain ⟨i, hi, hz, hs, hb⟩ := infoOf hi
  have h := run_make (P := P) w t e i _ ht hi hz .i64 .i64 (l : Int) (c : Int) (by omega) (by omega) (by rw [hb, Int.mul_comm, ← Int.natCast_mul, Nat.mul_comm]; first | omega | (rw [Nat.mul_comm]; omega)) (by omega)
  rw [hs] at h
  simp only [Int.toNat_natCast, Nat.mul_one] at h
  rw [h]
  congr 2
  simp only [madeCells, hzv]
  congr 1
  apply Array.ext
  · simp
  · intro i h1 h2
    simp [Nat.mod_one]
theorem St.reads {w : World} {L : List Ent} (h : ∀ e ∈ L, e.Ok w ∧ ∀ k, ¬ e.W k) : St [] w w L :=
  St.from w [] L (fun e he => ⟨(h e he).1, fun k hk => absurd hk ((h e he).2 k)⟩) (List.pairwise_of_forall_mem_list fun a ha b hb k => ⟨fun h1 => absurd h1 ((h a ha).2 k), fun h1 => absurd h1 ((h b hb).2 k)⟩)
/-- one cell is stored, and what then stands there -/
theorem s1e (k : Nat) (e : Array Value) {C : Cx} {L : List Ent} {b o : Nat} {c : Array Value} {t t' : TypeId} {v : Value} {next : List Ent → Prop} (hk : L[k]? = some (cl b c t')) (ho : o < c.size) (he : c.setIfInBounds o v = e) (go : next (L.set k (cl b e t')))
    (h1 : sizeIs C.P t 1 = true := by kernel_rfl) (h2 : v.oneCell' = true := by rfl) (h3 : v.cells = #[v] := by rfl) : StP C t L b o v next := by
  subst he; exact s1 k hk ho go h1 h2 h3
/-- a call that gives one of several values -/
theorem ce {C : Cx} {L : List Ent} {α : Type} {Φ : α → Prop} {v : α → Value} {g : FuncId} {vs : List Value} {next : Value → List Ent → Prop}
    (h : ∀ w, St C.M C.B w L → Calls C.P g vs.toArray w fun e w' => ∃ x, Φ x ∧ e = .returned (v x) ∧ Below w.heap.size w w') (go : ∀ x, Φ x → next (v x) L) : CallP C g vs L next :=
  cg h fun w e w' hs ⟨x, hx, he, hb⟩ => ⟨_, _, he, hs.call hb, go x hx⟩
/-- a region that draws ends in one state -/
theorem cut {C : Cx} {id : Nat} {ops : Array Oper} {K : Exit → Sy → Prop} {s : Sy} {α : Type} (J : α → Prop) (f : α → Sy) (h : DrawP C id ops (fun e s' => match e with | .normal => ∃ x, J x ∧ Le (f x) s' | _ => False) s) (go : ∀ x, J x → K .normal (f x)) : DrawP C id ops K s := by
  refine ⟨fun n a w hf hs => wpIn_mono (h.go n a w hf hs) fun e a' w' hq => ?_⟩
  obtain ⟨s', hf', hs', hk⟩ := hq
  cases e with
  | normal => obtain ⟨x, hx, hle⟩ := hk; exact ⟨f x, hf'.le hle, hs'.sub hle.l, go x hx⟩
  | _ => exact hk.elim
/-- the same, where what is known may stand in another order -/
theorem cutp {C : Cx} {id : Nat} {ops : Array Oper} {K : Exit → Sy → Prop} {s : Sy} {α : Type} (J : α → Prop) (f : α → Sy)
    (h : DrawP C id ops (fun e s' => match e with | .normal => ∃ x, J x ∧ leF (f x).σ s'.σ ∧ (∃ L', (f x).L.Perm L' ∧ Sub L' s'.L) ∧ (f x).D = s'.D | _ => False) s) (go : ∀ x, J x → K .normal (f x)) : DrawP C id ops K s := by
  refine ⟨fun n a w hf hs => wpIn_mono (h.go n a w hf hs) fun e a' w' hq => ?_⟩
  obtain ⟨s', hf', hs', hk⟩ := hq
  cases e with
  | normal => obtain ⟨x, hx, hle, ⟨L', hp, hsub⟩, hd⟩ := hk; exact ⟨f x, ⟨hf'.size, hf'.defers.trans hd.symm, fun i v hv => hf'.slot i v (leF_get hle i v hv)⟩, (hs'.sub hsub).perm hp, go x hx⟩
  | _ => exact hk.elim
end Go.Sx
end
section
namespace Go.Sx
open Go Go.RowKit
set_option linter.unusedVariables false
/-- a fact that is known -/
def factE (P : Prop) : Ent := rs ⟨fun _ => False, fun _ => False, fun _ => P, fun _ _ _ h => h, fun _ _ k h => h.elim (fun h => h.elim) fun h => h.elim⟩
theorem factW (P : Prop) (k : Nat) : ¬ (factE P).W k := fun h => ((rsW _ k).1 h).elim
theorem factA (P : Prop) (k : Nat) : ¬ (factE P).A k := fun h => ((rsA _ k).1 h).elim (fun h => h.elim) fun h => h.elim
theorem St.fact {M : Bks} {B w : World} {L : List Ent} (h : St M B w L) {P : Prop} (hP : P) : St M B w (factE P :: L) := by
  refine ⟨h.os, h.tape, h.output, h.size, h.old, fun e he => ?_, fun e he k hk => ?_, .cons (fun y hy k => ⟨fun h1 => absurd h1 (factW P k), fun _ h2 => absurd h2 (factA P k)⟩) h.apart⟩
  · rcases List.mem_cons.1 he with rfl | he
    · exact (rsOk _ _).2 hP
    · exact h.ok e he
  · rcases List.mem_cons.1 he with rfl | he
    · exact absurd hk (factW P k)
    · exact h.ownW e he k hk
theorem St.factP {M : Bks} {B w : World} {L : List Ent} (h : St M B w L) {P : Prop} (hm : factE P ∈ L) : P := (rsOk _ w).1 (h.ok _ hm)
theorem CodeP.no {C : Cx} {c : Code} {K : Exit → Sy → Prop} {s : Sy} (h : ∀ w, St C.M C.B w s.L → False) : CodeP C c K s := ⟨fun n a w hf hs => (h w hs).elim⟩
/-- how a round's body is left; what then is a fact -/
def roundI {I α β : Type} (Inv : I → α → Prop) (E : I → α → List Ent) (S : β → List Ent × Code) (l : Nat) (busy : Obj) (B : World) (es : List Ent) (j : I) : Exit → Sy → Prop := fun x s => match x with
  | .normal => ∃ y, Inv j y ∧ Sub (E j y ++ [⟨l, some busy, false, none⟩]) s.L ∧ ∀ e ∈ E j y, ∀ b, e.A b → (∃ f ∈ es, f.A b) ∨ B.heap.size ≤ b
  | .ret => ∃ y, (S y).2 = .ret ∧ Sub ((S y).1 ++ [⟨l, some busy, false, none⟩]) s.L ∧ ∀ e ∈ (S y).1, ∀ b, e.A b → (∃ f ∈ es, f.A b) ∨ B.heap.size ≤ b
  | .exit id => ∃ y, (S y).2 = .exit id ∧ Sub ((S y).1 ++ [⟨l, some busy, false, none⟩]) s.L ∧ ∀ e ∈ (S y).1, ∀ b, e.A b → (∃ f ∈ es, f.A b) ∨ B.heap.size ≤ b
  | _ => False
/-- with the fact: «as» a thing of its own -/
theorem roundI_M {C : Cx} {I α β : Type} {Inv : I → α → Prop} {E : I → α → List Ent} {S : β → List Ent × Code} {l : Nat} {busy : Obj} {B : World} {es : List Ent} {j : I} (x : Exit) (a : Act) (w : World) (h : Holds C (roundI Inv E S l busy B es j x) a w) :
    Holds C (roundM (fun i y => factE (Inv i y) :: E i y) S l busy B es j x) a w := by
  obtain ⟨s, hf, hs, hr⟩ := h
  cases x with
  | normal =>
    obtain ⟨y, h0, h1, h2⟩ := hr
    refine ⟨⟨s.σ, factE (Inv j y) :: s.L, s.D⟩, ⟨hf.size, hf.defers, hf.slot⟩, hs.fact h0, y, .cons h1, fun e he b hb => ?_⟩
    rcases List.mem_cons.1 he with rfl | he
    · exact absurd hb (factA _ b)
    · exact h2 e he b hb
  | ret => exact ⟨s, hf, hs, hr⟩
  | exit id => exact ⟨s, hf, hs, hr⟩
  | _ => exact hr.elim
theorem sub_mid (L : List Ent) (e : Ent) (l : List Ent) : Sub (L ++ l) (L ++ e :: l) := by
  induction L with
  | nil => exact .drop (Sub.refl l)
  | cons x L ih => exact .cons ih
/-- the blocks of the fact are none -/
theorem roundK_es {I α β : Type} {E : I → α → Ent} {S : β → Ent × Code} {l : Nat} {busy : Obj} {B : World} {es : List Ent} {P : Prop} {j : I} (x : Exit) (s : Sy) (h : roundK E S l busy B (rs (mres es)) j x s) : roundK E S l busy B (rs (mres (factE P :: es))) j x s := by
  have hA : ∀ b, (rs (mres es)).A b → (rs (mres (factE P :: es))).A b := fun b hb => by
    obtain ⟨e, he, hb⟩ := (mresA _ _).1 hb
    exact (mresA _ _).2 ⟨e, List.mem_cons_of_mem _ he, hb⟩
  cases x with
  | normal => obtain ⟨y, h1, h2⟩ := h; exact ⟨y, h1, fun b hb => (h2 b hb).imp (hA b) id⟩
  | ret => obtain ⟨y, h0, h1, h2⟩ := h; exact ⟨y, h0, h1, fun b hb => (h2 b hb).imp (hA b) id⟩
  | exit _ => obtain ⟨y, h0, h1, h2⟩ := h; exact ⟨y, h0, h1, fun b hb => (h2 b hb).imp (hA b) fun h => h⟩
  | _ => exact h.elim
/-- a loop over a function, in a function of its own: the last entries are those that turn; a fact is kept -/
theorem rfi {C : Cx} (hT : TabOk C.P C.T) (hF : C.F = none) {g : Operand} {ps : Array Tmp} {assign body : Code} {K : Exit → Sy → Prop} {σ : Fr} {L0 L : List Ent} {D : List Deferred} {gf : FuncId} {lb : Array Value} {I α β : Type} {i0 : I} {nx : I → List Value → I → Prop} {fin : I → Prop} {H : Res}
    (hcl : callable C.T gf = true) (hg : ev σ g (· = .func (.func gf) #[] lb)) (hit : Itr C.P gf lb.toList i0 nx fin H) (Inv : I → α → Prop) (E : I → α → List Ent) (S : β → List Ent × Code) (hS : ∀ y, (S y).2 = .ret ∨ ∃ id, (S y).2 = .exit id) (x0 : α) (hi0 : Inv i0 x0) (hL : (L0 ++ E i0 x0).Perm L)
    (hH : ∀ w, St C.M C.B w (L0 ++ E i0 x0) → H.p w ∧ ∀ b, H.A b → ∀ e ∈ E i0 x0, ¬ e.W b) (hps : ∀ i args j, nx i args j → args.length = ps.size)
    (round : ∀ l i args j x w ready busy, nx i args j → Inv i x → cx ⟨C.P, C.T, C.N, [fun b => b = l ∨ ∃ e ∈ E i x, e.W b], w, some l⟩ assign (beginK ⟨C.P, C.T, C.N, [fun b => b = l ∨ ∃ e ∈ E i x, e.W b], w, some l⟩ body (roundI Inv E S l busy w (E i x) j) l (L0.length + (E i x).length) ready busy)
      ⟨putPs C.N ps.toList args σ, L0.map Ent.rd ++ E i x ++ [⟨l, some ready, false, none⟩], []⟩)
    (done : ∀ i y b0, fin i → Inv i y → K .normal ⟨σ, L0 ++ E i y ++ [dfe b0], { target := .collected b0, args := #[] } :: D⟩)
    (stop : ∀ y b0, K (exitOf (S y).2) ⟨σ, L0 ++ (S y).1 ++ [dfe b0], { target := .collected b0, args := #[] } :: D⟩) : CodeP C (.rangeFunc g ps assign body) K ⟨σ, L, D⟩ := by
  refine CodeP.from (L' := L0 ++ [rs (mres (factE (Inv i0 x0) :: E i0 x0))]) (fun w hs => ?_) ?_
  · have h1 : St C.M C.B w (L0 ++ (factE (Inv i0 x0) :: E i0 x0)) := ((hs.perm hL).fact hi0).perm List.perm_middle
    simpa using St.pack (Y := []) (by simpa using h1)
  have hset : ∀ e e' : Ent, (L0 ++ [e]).set L0.length e' = L0 ++ [e'] := fun e e' => by simp
  refine CodeP.mono (K := fun x s => (∀ w, St C.M C.B w s.L → False) ∨ ∃ L', (∀ w, St C.M C.B w s.L → St C.M C.B w L') ∧ K x ⟨s.σ, L', s.D⟩) (fun x a w ⟨s, h1, h2, h3⟩ => ?_) ?_
  · rcases h3 with h3 | ⟨L', h3, h4⟩
    · exact (h3 w h2).elim
    · exact ⟨⟨s.σ, L', s.D⟩, ⟨h1.size, h1.defers, h1.slot⟩, h3 w h2, h4⟩
  refine rf' hT hF hcl hg hit L0.length (fun i x => rs (mres (factE (Inv i x) :: E i x))) (fun y => (rs (mres (S y).1), (S y).2)) hS x0 (by simp) (fun w hs => ?_) hps (fun l i args j x w ready busy hn => ?_) (fun i y b0 hf => ?_) (fun y b0 => ?_)
  · have h1 := hH w ((St.unpack (Y := []) (by simpa using hs)).sub (by simpa using sub_mid L0 (factE (Inv i0 x0)) (E i0 x0)))
    exact ⟨h1.1, fun b hb hw => by
      obtain ⟨e, he, hw⟩ := (mresW _ _).1 hw
      rcases List.mem_cons.1 he with rfl | he
      · exact factW _ b hw
      · exact h1.2 b hb e he hw⟩
  · by_cases hI : Inv i x
    · have hM : (fun b => b = l ∨ (rs (mres (factE (Inv i x) :: E i x))).W b) = fun b => b = l ∨ ∃ e ∈ E i x, e.W b := by
        funext b; rw [mresW]
        refine propext ⟨fun h => h.imp id fun ⟨e, he, hw⟩ => ?_, fun h => h.imp id fun ⟨e, he, hw⟩ => ⟨e, List.mem_cons_of_mem _ he, hw⟩⟩
        rcases List.mem_cons.1 he with rfl | he
        · exact absurd hw (factW _ b)
        · exact ⟨e, he, hw⟩
      rw [hM]
      have h1 := cx_ok (C := ⟨C.P, C.T, C.N, [fun b => b = l ∨ ∃ e ∈ E i x, e.W b], w, some l⟩) hT assign _ _ (round l i args j x w ready busy hn hI)
      refine CodeP.from (L' := L0.map Ent.rd ++ E i x ++ [⟨l, some ready, false, none⟩]) (fun w' hs => ?_) (h1.mono fun e a w' h => ?_)
      · have e1 : (List.map Ent.rd (L0 ++ [rs (mres (factE (Inv i0 x0) :: E i0 x0))])).set L0.length (rs (mres (factE (Inv i x) :: E i x))) ++ [⟨l, some ready, false, none⟩] = L0.map Ent.rd ++ [rs (mres (factE (Inv i x) :: E i x))] ++ [⟨l, some ready, false, none⟩] := by
          rw [List.map_append]; simp [List.set_append_right]
        rw [e1] at hs
        have h2 := hs.unpack
        rw [List.append_assoc] at h2 ⊢
        exact h2.sub (sub_mid _ _ _)
      · obtain ⟨s, hf, hs, h2⟩ := h
        cases e with
        | normal =>
          obtain ⟨h3, h4⟩ := h2
          have h5 := (cx_ok (C := ⟨C.P, C.T, C.N, [fun b => b = l ∨ ∃ e ∈ E i x, e.W b], w, some l⟩) hT body _ _ h4).mono fun e a w' h => round_pack (C := ⟨C.P, C.T, C.N, [fun b => b = l ∨ ∃ e ∈ E i x, e.W b], w, some l⟩) e a w' (roundI_M e a w' h)
          have h5 := h5.imp fun e s h => roundK_es (l := l) (busy := busy) (P := Inv i x) e s h
          obtain ⟨hlt, hget⟩ := List.getElem?_eq_some_iff.1 h3
          have hsp : s.L = s.L.take (L0.length + (E i x).length) ++ ⟨l, some ready, false, none⟩ :: s.L.drop (L0.length + (E i x).length + 1) := by
            rw [← hget]; simp
          have hset2 : s.L.set (L0.length + (E i x).length) ⟨l, some busy, false, none⟩ = s.L.take (L0.length + (E i x).length) ++ ⟨l, some busy, false, none⟩ :: s.L.drop (L0.length + (E i x).length + 1) := List.set_eq_take_append_cons_drop.trans (if_pos hlt)
          rw [hset2] at h5
          generalize s.L.take (L0.length + (E i x).length) = A at *
          generalize s.L.drop (L0.length + (E i x).length + 1) = Z at *
          refine ⟨⟨s.σ, List.replicate (L0.length + 1) dead ++ ⟨l, some ready, false, none⟩ :: (A ++ Z), s.D⟩, ⟨hf.size, hf.defers, hf.slot⟩, ?_, ?_, ?_⟩
          · rw [hsp] at hs
            exact (hs.perm List.perm_middle.symm).pad _
          · simp
          · refine CodeP.from (L' := A ++ ⟨l, some busy, false, none⟩ :: Z) (fun w2 hs2 => ?_) h5
            have e2 : (List.replicate (L0.length + 1) dead ++ (⟨l, some ready, false, none⟩ : Ent) :: (A ++ Z)).set (L0 ++ [rs (mres (factE (Inv i0 x0) :: E i0 x0))]).length ⟨l, some busy, false, none⟩ = List.replicate (L0.length + 1) dead ++ (⟨l, some busy, false, none⟩ : Ent) :: (A ++ Z) := by
              rw [List.set_append_right _ _ (by simp)]; simp
            rw [e2] at hs2
            exact (hs2.sub (Sub.padL _ _)).perm List.perm_middle
        | _ => exact h2.elim
    · refine CodeP.no fun w' hs => hI ?_
      have e1 : (List.map Ent.rd (L0 ++ [rs (mres (factE (Inv i0 x0) :: E i0 x0))])).set L0.length (rs (mres (factE (Inv i x) :: E i x))) ++ [⟨l, some ready, false, none⟩] = L0.map Ent.rd ++ [rs (mres (factE (Inv i x) :: E i x))] ++ [⟨l, some ready, false, none⟩] := by
        rw [List.map_append]; simp [List.set_append_right]
      rw [e1] at hs
      exact hs.unpack.factP (by simp)
  · by_cases hI : Inv i y
    · refine .inr ⟨L0 ++ E i y ++ [dfe b0], fun w hs => ?_, done i y b0 hf hI⟩
      rw [hset] at hs
      have h2 := hs.unpack
      rw [List.append_assoc] at h2 ⊢
      exact h2.sub (sub_mid _ _ _)
    · refine .inl fun w hs => hI ?_
      rw [hset] at hs
      exact hs.unpack.factP (by simp)
  · refine .inr ⟨L0 ++ (S y).1 ++ [dfe b0], fun w hs => ?_, stop y b0⟩
    rw [hset] at hs
    exact hs.unpack
end Go.Sx
end
section
namespace Go.Sx
open Go Go.RowKit
set_option linter.unusedVariables false
/-- «as» Itr; each round is handed blocks that are new -/
structure ItrO (P : Program) (g : FuncId) (lb : List Value) {I : Type} (i0 : I) (nx : I → List Value → List Ent → I → Prop) (fin : I → Prop) (H : Res) : Prop where
  go : ∀ (l : Nat) (α β : Type) (R : I → α → Res) (S : β → Res) (W : World) (x0 : α), (R i0 x0).p W → H.p W → (∀ k, H.A k → ¬ (R i0 x0).w k) →
    (∀ i args q j x w, nx i args q j → (∀ e ∈ q, ∀ k, e.A k → W.heap.size ≤ k) → (mres (rs (R i x) :: q)).p w → ∀ m, YieldAt Fence.wide m P l args.toArray w fun e w' => (e = .returned (.bool true) ∧ ∃ y, Turns w w' (mres (rs (R i x) :: q)) (R j y)) ∨ (e = .returned (.bool false) ∧ ∃ y, Turns w w' (mres (rs (R i x) :: q)) (S y))) →
    Calls P g (.func (.yield l) #[] #[] :: lb).toArray W fun e W' => (∃ v, e = .returned v) ∧ ((∃ i y, fin i ∧ Turns W W' (R i0 x0) (R i y)) ∨ ∃ y, Turns W W' (R i0 x0) (S y))
theorem Turns.more {w w' : World} {r1 r r' : Res} (h : Turns w w' r1 r') (hw : ∀ k, r1.w k → r.w k) (hA : ∀ k, r1.w k ∨ r1.r k → r.w k ∨ r.r k) : Turns w w' r r' :=
  ⟨h.os, h.tape, h.output, h.size, fun k hk hn => h.old k hk fun h1 => hn (hw k h1), h.ok, fun k hk => (h.W k hk).imp (hw k) id, fun k hk => (h.A k hk).imp (hA k) id⟩
theorem roundK_sub {I α β : Type} {E : I → α → Ent} {S : β → Ent × Code} {l : Nat} {busy : Obj} {B : World} {e e' : Ent} {j : I} (hA : ∀ b, e.A b → e'.A b) (x : Exit) (s : Sy) (h : roundK E S l busy B e j x s) : roundK E S l busy B e' j x s := by
  cases x with
  | normal => obtain ⟨y, h1, h2⟩ := h; exact ⟨y, h1, fun b hb => (h2 b hb).imp (hA b) id⟩
  | ret => obtain ⟨y, h0, h1, h2⟩ := h; exact ⟨y, h0, h1, fun b hb => (h2 b hb).imp (hA b) id⟩
  | exit _ => obtain ⟨y, h0, h1, h2⟩ := h; exact ⟨y, h0, h1, fun b hb => (h2 b hb).imp (hA b) fun h => h⟩
  | _ => exact h.elim
/-- a round is asked for; the last entry is handed on -/
theorem ydO {C : Cx} {L : List Ent} {l : Nat} {args : List Value} {I α β : Type} {R : I → α → Res} {S : β → Res} {nx : I → List Value → List Ent → I → Prop} {i j : I} {x : α} {e : Ent} {next : Value → List Ent → Prop}
    (hr : ∀ i args q j x w, nx i args q j → (∀ e ∈ q, ∀ k, e.A k → C.B.heap.size ≤ k) → (mres (rs (R i x) :: q)).p w → ∀ m, YieldAt Fence.wide m C.P l args.toArray w fun e w' => (e = .returned (.bool true) ∧ ∃ y, Turns w w' (mres (rs (R i x) :: q)) (R j y)) ∨ (e = .returned (.bool false) ∧ ∃ y, Turns w w' (mres (rs (R i x) :: q)) (S y)))
    (hn : nx i args [e] j) (he : ∀ w, St C.M C.B w (rs (R i x) :: L ++ [e]) → ∀ k, e.A k → C.B.heap.size ≤ k)
    (g1 : ∀ y, (∀ b, (R j y).A b → (R i x).A b ∨ C.B.heap.size ≤ b) → next (.bool true) (rs (R j y) :: L)) (g0 : ∀ y, (∀ b, (S y).A b → (R i x).A b ∨ C.B.heap.size ≤ b) → next (.bool false) (rs (S y) :: L)) : YieldP C l args (rs (R i x) :: L ++ [e]) next := by
  refine ⟨fun w hs m => ?_⟩
  have hf := he w hs
  have h1 : St C.M C.B w ([] ++ [rs (R i x), e] ++ L) := hs.perm (by simpa using (List.perm_append_comm (l₁ := L) (l₂ := [e])).symm)
  have h2 := h1.pack
  have hp : (mres (rs (R i x) :: [e])).p w := h2.res (k := 0) rfl
  have hsz := hs.size
  have hA : ∀ X : Res, ∀ w', Turns w w' (mres (rs (R i x) :: [e])) X → ∀ b, X.A b → (R i x).A b ∨ C.B.heap.size ≤ b := fun X w' ht b hb => by
    rcases ht.A b hb with h | h
    · obtain ⟨f, hf1, h9⟩ := (mresA _ _).1 ((rsA _ _).2 h)
      simp only [List.mem_cons, List.not_mem_nil, or_false] at hf1
      rcases hf1 with rfl | rfl
      · exact .inl ((rsA _ _).1 h9)
      · exact .inr (hf b h9)
    · exact .inr (Nat.le_trans hsz h)
  refine YieldAt.mono (hr i args [e] j x w hn (fun f hf1 => (List.mem_singleton.1 hf1) ▸ hf) hp m) fun v w' h => ?_
  rcases h with ⟨hv, y, ht⟩ | ⟨hv, y, ht⟩
  · exact ⟨_, _, hv, by simpa using St.turn h2 (k := 0) rfl ht, g1 y (hA _ _ ht)⟩
  · exact ⟨_, _, hv, by simpa using St.turn h2 (k := 0) rfl ht, g0 y (hA _ _ ht)⟩
/-- a loop over a function, in a function of its own -/
theorem rfO' {C : Cx} (hT : TabOk C.P C.T) (hF : C.F = none) {g : Operand} {ps : Array Tmp} {assign body : Code} {K : Exit → Sy → Prop} {σ : Fr} {L : List Ent} {D : List Deferred} {gf : FuncId} {lb : Array Value} {I α β : Type} {i0 : I} {nx : I → List Value → List Ent → I → Prop} {fin : I → Prop} {H : Res}
    (hcl : callable C.T gf = true) (hg : ev σ g (· = .func (.func gf) #[] lb)) (hit : ItrO C.P gf lb.toList i0 nx fin H) (k : Nat) (E : I → α → Ent) (S : β → Ent × Code) (hS : ∀ y, (S y).2 = .ret ∨ ∃ id, (S y).2 = .exit id) (x0 : α) (hk : L[k]? = some (E i0 x0))
    (hH : ∀ w, St C.M C.B w L → H.p w ∧ ∀ b, H.A b → ¬ (E i0 x0).W b) (hps : ∀ i args q j, nx i args q j → args.length = ps.size)
    (round : ∀ l i args q j x w ready busy, nx i args q j → CodeP ⟨C.P, C.T, C.N, [fun b => b = l ∨ (rs (mres (E i x :: q))).W b], w, some l⟩ assign (beginKP ⟨C.P, C.T, C.N, [fun b => b = l ∨ (rs (mres (E i x :: q))).W b], w, some l⟩ body (roundK E S l busy w (rs (mres (E i x :: q))) j) l L.length ready busy)
      ⟨putPs C.N ps.toList args σ, (L.map Ent.rd).set k (rs (mres (E i x :: q))) ++ [⟨l, some ready, false, none⟩], []⟩)
    (done : ∀ i y b0, fin i → K .normal ⟨σ, L.set k (E i y) ++ [dfe b0], { target := .collected b0, args := #[] } :: D⟩)
    (stop : ∀ y b0, K (exitOf (S y).2) ⟨σ, L.set k (S y).1 ++ [dfe b0], { target := .collected b0, args := #[] } :: D⟩) : CodeP C (.rangeFunc g ps assign body) K ⟨σ, L, D⟩ := by
  refine ⟨fun n a w hf hs => ?_⟩
  have hfence : C.fence = Fence.wide := by unfold Cx.fence; rw [hF]
  rw [hfence]
  have hkl : k < L.length := (List.getElem?_eq_some_iff.1 hk).1
  have hgv : a.eval g = .func (.func gf) #[] lb := hf.fit g _ hg
  obtain ⟨fn0, k1, k2, k3⟩ := entOk_enters (callable_enters hT hcl)
  have k4 : fn0.name ≠ "runtime.NumGoroutine" := by simpa using k2
  have eg : ∀ args w, (callFunc gf args).run C.P w = .ok (.enter gf args) w := by
    intro args w
    cases hb : fn0.body with
    | none => rw [hb] at k3; cases k3
    | some code => simp [callFunc, k1, k4, hb]
  refine wpIn_rangeFunc fun fn hfn => ?_
  obtain ⟨rec, hrec⟩ : ∃ rec : LoopState → Option Code → Loop, rec = fun st pe => { state := st, pending := pe, fn, tmps := a.tmps, params := ps, assign, body, defers := w.heap.size } := ⟨_, rfl⟩
  obtain ⟨W0, hW0⟩ : ∃ W0, W0 = w.alloc (.deferred (some [])) := ⟨_, rfl⟩
  obtain ⟨W1, hW1⟩ : ∃ W1, W1 = W0.alloc (.loop (rec .ready none)) := ⟨_, rfl⟩
  have hz0 : W0.heap.size = w.heap.size + 1 := by rw [hW0]; simp
  have hz1 : W1.heap.size = w.heap.size + 2 := by rw [hW1]; simp [hz0]
  have hs0 : St C.M C.B W0 (L ++ [dfe w.heap.size]) := by rw [hW0]; exact hs.alloc _
  have hL1 : W1.heap[w.heap.size + 1]? = some (.loop (rec .ready none)) := by rw [hW1, ← hz0]; exact heap_alloc_new W0 _
  have hs1 : St C.M C.B W1 (L ++ [dfe w.heap.size]) := by rw [hW1]; exact hs0.call (below_alloc1 W0 _)
  have hk1 : (L ++ [dfe w.heap.size])[k]? = some (E i0 x0) := by rw [List.getElem?_append_left hkl]; exact hk
  obtain ⟨F, hFF⟩ : ∃ F, F = (L ++ [dfe w.heap.size]).set k dead := ⟨_, rfl⟩
  have hF1 : ∀ f ∈ F, f = dead ∨ ∃ i, i ≠ k ∧ (L ++ [dfe w.heap.size])[i]? = some f := fun f hf => by rw [hFF] at hf; exact mem_set_cases hf
  have hFl : ∀ f ∈ F, ∀ j, f.A j → j < w.heap.size + 1 := fun f hf j hj => by
    rcases hF1 f hf with rfl | ⟨i, hi, hm⟩
    · simp at hj
    · have := hs0.ltA (List.mem_of_getElem? hm) hj; omega
  have hEl : ∀ j, (E i0 x0).A j → j < w.heap.size := fun j hj => hs.ltA (List.mem_of_getElem? hk) hj
  have hp0 : BothP (E i0 x0) (E i0 x0) (w.heap.size + 1) (.loop (rec .ready none)) F W1 := by
    refine ⟨hs1.ok _ (List.mem_of_getElem? hk1), hL1, fun f hf => ?_, fun f hf => ?_, fun f hf hj => ?_, fun hj => ?_, fun j hj => .inl hj⟩
    · rcases hF1 f hf with rfl | ⟨i, hi, hm⟩
      · simp
      · exact hs1.ok f (List.mem_of_getElem? hm)
    · rcases hF1 f hf with rfl | ⟨i, hi, hm⟩
      · exact (dead_apart _).symm
      · exact pw_ne hs1.apart hk1 hm (fun e => hi e.symm)
    · have := hFl f hf _ hj; omega
    · have := hEl _ hj; omega
  refine ⟨w.heap.size + 1, [{ target := .collected w.heap.size, args := #[] }], W1, { target := .fn (.func gf) lb, args := #[.func (.yield (w.heap.size + 1)) #[] #[]] }, W1, gf,
    #[.func (.yield (w.heap.size + 1)) #[] #[]] ++ lb, W1, ?_, ?_, fun _ _ => trivial, ?_, fun h => (by cases h), ?_⟩
  · rw [hW1, hW0, hrec]; exact run_enterLoop_outer _ _ _ _ _
  · simp only [resolve, hgv]
    simp [go_sem]
  · simp [invoke, go_sem, eg]
  · have hcall := hit.go (w.heap.size + 1) α β (fun i x => both (E i0 x0) (E i x) (w.heap.size + 1) (.loop (rec .ready none)) F) (fun y => both (E i0 x0) (S y).1 (w.heap.size + 1) (.loop (rec .done (some (S y).2))) F) W1 x0 hp0
      (H.st w W1 (fun j hj => by
        have hjl := H.bd w (hH w hs).1 j hj
        rw [hW1, hW0, Below.heap_alloc _ _ _ (by simp; omega), Below.heap_alloc _ _ _ hjl]) (hH w hs).1)
      (fun b hb hn => by
        rcases hn with h | h
        · exact (hH w hs).2 b hb h
        · have := H.bd w (hH w hs).1 b hb; omega) ?_
    · have e1 : (Value.func (.yield (w.heap.size + 1)) #[] #[] :: lb.toList).toArray = #[.func (.yield (w.heap.size + 1)) #[] #[]] ++ lb := by apply Array.ext'; simp
      rw [e1] at hcall
      refine ((callsIn_wide (n := n - 1)).2 hcall).mono ?_
      have fin' : ∀ (e' : Ent) (st : LoopState) (pe : Option Code) (W' : World), st ≠ .busy → Turns W1 W' (both (E i0 x0) (E i0 x0) (w.heap.size + 1) (.loop (rec .ready none)) F) (both (E i0 x0) e' (w.heap.size + 1) (.loop (rec st pe)) F) →
          ∃ w4, (Instr.endLoop (w.heap.size + 1)).run C.P W' = .ok pe w4 ∧ St C.M C.B w4 (L.set k e' ++ [dfe w.heap.size]) := by
        intro e' st pe W' hst ht
        have hp := ht.ok
        refine ⟨W'.putObj (w.heap.size + 1) (.loop { rec st pe with state := .exhausted }), by have := run_endLoop (P := C.P) hp.lp (by rw [hrec]; exact hst); subst hrec; exact this, ?_⟩
        have e2 : L.set k e' ++ [dfe w.heap.size] = (L ++ [dfe w.heap.size]).set k e' := by rw [List.set_append_left _ _ hkl]
        rw [e2]
        refine hs1.upd2 hk1 (by rw [World.putObj_size]; exact ht.size) (hp.ok.same fun j hj => World.putObj_heap_other fun h => hp.el (h ▸ hj)) (fun j hj hn ho => ?_) ht.os ht.tape ht.output (fun j hj => ?_) (fun j hj => ?_)
        · have hjl : j ≠ w.heap.size + 1 := by
            rcases ho with h | ⟨f, hf', h⟩
            · have := hs.size; omega
            · have := hFl f (hFF ▸ hf') j h; omega
          refine (World.putObj_heap_other hjl).trans (ht.old j hj ?_)
          rintro (h | h)
          · exact hn h
          · exact hjl h
        · rcases ht.W j (.inl hj) with (h | rfl) | h
          · exact .inl h
          · exact absurd hj.a hp.el
          · exact .inr h
        · rcases hp.e0 j hj with h | h
          · exact .inl h
          · exact .inr (by omega)
      rintro e W' ⟨⟨v, rfl⟩, ⟨i, y, hfi, ht⟩ | ⟨y, ht⟩⟩
      · obtain ⟨w4, hr, hs4⟩ := fin' _ _ _ W' (by simp) ht
        exact ⟨none, w4, hr, ⟨⟨σ, L.set k (E i y) ++ [dfe w.heap.size], { target := .collected w.heap.size, args := #[] } :: D⟩, ⟨hf.size, congrArg (_ :: ·) hf.defers, hf.slot⟩, hs4, done i y _ hfi⟩⟩
      · obtain ⟨w4, hr, hs4⟩ := fin' _ _ _ W' (by simp) ht
        refine ⟨some (S y).2, w4, hr, ?_⟩
        have hK := stop y w.heap.size
        rcases hS y with h | ⟨id, h⟩
        · rw [h] at hK ⊢
          exact wpIn_ret ⟨⟨σ, L.set k (S y).1 ++ [dfe w.heap.size], { target := .collected w.heap.size, args := #[] } :: D⟩, ⟨hf.size, congrArg (_ :: ·) hf.defers, hf.slot⟩, hs4, hK⟩
        · rw [h] at hK ⊢
          exact wpIn_exit ⟨⟨σ, L.set k (S y).1 ++ [dfe w.heap.size], { target := .collected w.heap.size, args := #[] } :: D⟩, ⟨hf.size, congrArg (_ :: ·) hf.defers, hf.slot⟩, hs4, hK⟩
    · intro i args q j x u hn hqf hpq m
      have hpz := hps i args q j hn
      have hp1 : BothP (E i0 x0) (E i x) (w.heap.size + 1) (.loop (rec .ready none)) F u := (rsOk _ _).1 (hpq.1 _ (List.mem_cons_self ..))
      have hpa := List.pairwise_cons.1 hpq.2
      have hqz : ∀ f ∈ q, ∀ b, f.A b → w.heap.size + 2 ≤ b := fun f hf b hb => by have := hqf f hf b hb; omega
      have hp : BothP (E i0 x0) (rs (mres (E i x :: q))) (w.heap.size + 1) (.loop (rec .ready none)) F u := by
        refine ⟨(rsOk _ _).2 ⟨fun e he => ?_, .cons (fun f hf b => ?_) hpa.2⟩, hp1.lp, hp1.fr, fun f hf b => ⟨fun h1 h2 => ?_, fun h1 h2 => ?_⟩, hp1.fl, fun h => ?_, fun b hb => ?_⟩
        · rcases List.mem_cons.1 he with rfl | he
          · exact hp1.ok
          · exact hpq.1 e (List.mem_cons_of_mem _ he)
        · have h1 := hpa.1 f hf b
          exact ⟨fun h2 => h1.1 ((rsW _ _).2 (.inl h2)), fun h2 h3 => h1.2 h2 ((rsA _ _).2 (.inr (.inl h3)))⟩
        · obtain ⟨e, he, h1⟩ := (mresW _ _).1 h1
          rcases List.mem_cons.1 he with rfl | he
          · exact (hp1.ap f hf b).1 h1 h2
          · have := hqz e he b h1.a
            have := hFl f hf b h2
            omega
        · obtain ⟨e, he, h2⟩ := (mresA _ _).1 h2
          rcases List.mem_cons.1 he with rfl | he
          · exact (hp1.ap f hf b).2 h1 h2
          · have := hqz e he b h2
            have := hFl f hf b h1.a
            omega
        · obtain ⟨e, he, h⟩ := (mresA _ _).1 h
          rcases List.mem_cons.1 he with rfl | he
          · exact hp1.el h
          · have := hqz e he _ h
            omega
        · obtain ⟨e, he, hb⟩ := (mresA _ _).1 hb
          rcases List.mem_cons.1 he with rfl | he
          · exact hp1.e0 b hb
          · have := hqz e he b hb
            exact .inr (by omega)
      have more : ∀ {u' : World} {X : Res}, Turns u u' (both (E i0 x0) (rs (mres (E i x :: q))) (w.heap.size + 1) (.loop (rec .ready none)) F) X → Turns u u' (mres (rs (both (E i0 x0) (E i x) (w.heap.size + 1) (.loop (rec .ready none)) F) :: q)) X := fun h => h.more (fun b hb => by
        rcases hb with hb | hb
        · obtain ⟨e, he, hb⟩ := (mresW _ _).1 hb
          rcases List.mem_cons.1 he with rfl | he
          · exact ⟨_, List.mem_cons_self .., (rsW _ _).2 (.inl hb)⟩
          · exact ⟨e, List.mem_cons_of_mem _ he, hb⟩
        · exact ⟨_, List.mem_cons_self .., (rsW _ _).2 (.inr hb)⟩) (fun b hb => by
        refine .inr ?_
        have base : ∀ b, (rs (mres (E i x :: q))).A b → ∃ e ∈ (rs (both (E i0 x0) (E i x) (w.heap.size + 1) (.loop (rec .ready none)) F) :: q), e.A b := fun b hb => by
          obtain ⟨e, he, hb⟩ := (mresA _ _).1 hb
          rcases List.mem_cons.1 he with rfl | he
          · exact ⟨_, List.mem_cons_self .., (rsA _ _).2 (.inr (.inl hb))⟩
          · exact ⟨e, List.mem_cons_of_mem _ he, hb⟩
        rcases hb with (hb | hb) | hb | hb
        · exact base b hb.a
        · exact ⟨_, List.mem_cons_self .., (rsA _ _).2 (.inl (.inr hb))⟩
        · exact base b hb
        · exact ⟨_, List.mem_cons_self .., (rsA _ _).2 (.inr (.inr hb))⟩)
      have hy := run_yield (P := C.P) (args := args.toArray) hp.lp (by rw [hrec]; simpa using hpz)
      rw [hrec] at hy
      refine ⟨fn, _, assign, body, hy, roundIn_of_wpIn hfn ?_⟩
      have e3 : ((ps.zip args.toArray).foldl (fun t (p, v) => t.setIfInBounds p v) a.tmps) = ((ps.toList.zip args).foldl (fun t (p, v) => t.setIfInBounds p v) a.tmps) := by
        rw [← Array.foldl_toList]; simp
      have hfit := putPs_fits ps.toList args σ L ((L.map Ent.rd).set k (rs (mres (E i x :: q))) ++ [⟨w.heap.size + 1, some (.loop (rec .ready none)), false, none⟩]) a hf
      have hst : St [fun b => b = w.heap.size + 1 ∨ (rs (mres (E i x :: q))).W b] u u ((L.map Ent.rd).set k (rs (mres (E i x :: q))) ++ [⟨w.heap.size + 1, some (.loop (rec .ready none)), false, none⟩]) := by
        have hmem : ∀ f ∈ (L.map Ent.rd).set k (rs (mres (E i x :: q))), f = rs (mres (E i x :: q)) ∨ ∃ f' ∈ F, f = f'.rd := by
          intro f hf
          rcases mem_set_cases hf with rfl | ⟨i', hi, hm⟩
          · exact .inl rfl
          · right
            rw [List.getElem?_map, Option.map_eq_some_iff] at hm
            obtain ⟨f', hm, rfl⟩ := hm
            have hil := (List.getElem?_eq_some_iff.1 hm).1
            exact ⟨f', by rw [hFF]; exact List.mem_of_getElem? (i := i') (by rw [List.getElem?_set_ne (fun e => hi e.symm), List.getElem?_append_left hil]; exact hm), rfl⟩
        refine St.from u _ _ (fun f hf => ?_) ?_
        · rcases List.mem_append.1 hf with hf | hf
          · rcases hmem f hf with rfl | ⟨f', hf', rfl⟩
            · exact ⟨hp.ok, fun b hb => ⟨_, List.mem_singleton.2 rfl, .inr hb⟩⟩
            · exact ⟨(Ent.rdOk _ _).2 (hp.fr f' hf'), fun b hb => absurd hb (Ent.rdW _ _)⟩
          · obtain rfl : f = ⟨w.heap.size + 1, some (.loop (rec .ready none)), false, none⟩ := by simpa using hf
            exact ⟨by simpa using hp.lp, fun b hb => by simp at hb; simp [hb]⟩
        · refine List.pairwise_append.2 ⟨pw_set ?_ ?_, by simp, ?_⟩
          · rw [List.pairwise_map]
            exact List.pairwise_of_forall (fun x y b => ⟨fun h => absurd h (Ent.rdW _ _), fun h => absurd h (Ent.rdW _ _)⟩)
          · intro i' f hi hm
            rw [List.getElem?_map, Option.map_eq_some_iff] at hm
            obtain ⟨f', hm, rfl⟩ := hm
            have hil := (List.getElem?_eq_some_iff.1 hm).1
            have hf' : f' ∈ F := by rw [hFF]; exact List.mem_of_getElem? (i := i') (by rw [List.getElem?_set_ne (fun e => hi e.symm), List.getElem?_append_left hil]; exact hm)
            exact fun b => ⟨fun h1 h2 => (hp.ap f' hf' b).1 h1 ((Ent.rdA _ _).1 h2), fun h1 => absurd h1 (Ent.rdW _ _)⟩
          · intro f hf y hy
            obtain rfl : y = ⟨w.heap.size + 1, some (.loop (rec .ready none)), false, none⟩ := by simpa using hy
            rcases hmem f hf with rfl | ⟨f', hf', rfl⟩
            · exact fun b => ⟨fun h1 h2 => by simp at h2; subst h2; exact hp.el h1.a, fun h1 h2 => by simp at h1; subst h1; exact hp.el h2⟩
            · exact fun b => ⟨fun h1 => absurd h1 (Ent.rdW _ _), fun h1 h2 => by simp at h1; subst h1; exact hp.fl f' hf' ((Ent.rdA _ _).1 h2)⟩
      have hcx := round (w.heap.size + 1) i args q j x u (.loop (rec .ready none)) (.loop (rec .busy none)) hn
      rw [e3]
      refine wpIn_mono (hcx.go m _ u hfit hst) ?_
      rintro e a1 w1 ⟨s1, hf1, hs1', hb⟩
      cases e with
      | normal =>
        obtain ⟨hb1, hb2⟩ := hb
        have hl1 := hs1'.nth hb1
        refine ⟨w1.putObj (w.heap.size + 1) (.loop (rec .busy none)), by have := run_beginRound (P := C.P) hl1 (by rw [hrec]); subst hrec; exact this, ?_⟩
        have hs2 := hs1'.put (o' := .loop (rec .busy none)) hb1
        refine wpIn_mono (hb2.go m a1 _ ⟨hf1.size, hf1.defers, hf1.slot⟩ hs2) ?_
        rintro e a3 w3 ⟨s3, hf3, hs3, hb3⟩
        cases e with
        | normal =>
          obtain ⟨y, hsub, hA⟩ := hb3
          have h3 := hs3.sub hsub
          have hr := run_endRound (P := C.P) none (h3.nth (k := 1) rfl)
          refine ⟨_, _, hr, .inl ⟨rfl, y, ?_⟩⟩
          have := round_turn (o'' := .loop (rec .ready none)) hp h3 hA
          refine more ?_
          rw [hrec] at this ⊢; exact this
        | ret =>
          obtain ⟨y, hy, hsub, hA⟩ := hb3
          have h3 := hs3.sub hsub
          have hr := run_endRound (P := C.P) (some .ret) (h3.nth (k := 1) rfl)
          refine ⟨_, _, hr, .inr ⟨rfl, y, ?_⟩⟩
          have := round_turn (o'' := .loop (rec .done (some .ret))) hp h3 hA
          rw [hy]
          refine more ?_
          rw [hrec] at this ⊢; exact this
        | exit id =>
          obtain ⟨y, hy, hsub, hA⟩ := hb3
          have h3 := hs3.sub hsub
          have hr := run_endRound (P := C.P) (some (.exit id)) (h3.nth (k := 1) rfl)
          refine ⟨_, _, hr, .inr ⟨rfl, y, ?_⟩⟩
          have := round_turn (o'' := .loop (rec .done (some (.exit id)))) hp h3 hA
          rw [hy]
          refine more ?_
          rw [hrec] at this ⊢; exact this
        | goto t => exact hb3.elim
        | panic ch => exact hb3.elim
        | outgrown => exact hb3.elim
      | _ => exact hb.elim
/-- how a round's body is left: what it owns need not be told -/
def roundW {I α β : Type} (Inv : I → α → Prop) (E : I → α → List Ent) (S : β → List Ent × Code) (l : Nat) (busy : Obj) (B : World) (es : List Ent) (j : I) : Exit → Sy → Prop := fun x s => match x with
  | .normal => ∃ y, Inv j y ∧ Sub (E j y ++ [⟨l, some busy, false, none⟩]) s.L ∧ ∀ e ∈ E j y, ∀ b, e.A b → ¬ e.W b → (∃ f ∈ es, f.A b) ∨ B.heap.size ≤ b
  | .ret => ∃ y, (S y).2 = .ret ∧ Sub ((S y).1 ++ [⟨l, some busy, false, none⟩]) s.L ∧ ∀ e ∈ (S y).1, ∀ b, e.A b → ¬ e.W b → (∃ f ∈ es, f.A b) ∨ B.heap.size ≤ b
  | .exit id => ∃ y, (S y).2 = .exit id ∧ Sub ((S y).1 ++ [⟨l, some busy, false, none⟩]) s.L ∧ ∀ e ∈ (S y).1, ∀ b, e.A b → ¬ e.W b → (∃ f ∈ es, f.A b) ∨ B.heap.size ≤ b
  | _ => False
theorem roundW_I {P : Program} {T : Tab} {N : Nat} {I α β : Type} {Inv : I → α → Prop} {E : I → α → List Ent} {S : β → List Ent × Code} {l : Nat} {busy : Obj} {B : World} {es : List Ent} {j : I} (x : Exit) (a : Act) (w : World)
    (h : Holds ⟨P, T, N, [fun b => b = l ∨ ∃ e ∈ es, e.W b], B, some l⟩ (roundW Inv E S l busy B es j x) a w) : Holds ⟨P, T, N, [fun b => b = l ∨ ∃ e ∈ es, e.W b], B, some l⟩ (roundI Inv E S l busy B es j x) a w := by
  obtain ⟨s, hf, hs, hr⟩ := h
  have key : ∀ F : List Ent, Sub (F ++ [⟨l, some busy, false, none⟩]) s.L → (∀ e ∈ F, ∀ b, e.A b → ¬ e.W b → (∃ f ∈ es, f.A b) ∨ B.heap.size ≤ b) → ∀ e ∈ F, ∀ b, e.A b → (∃ f ∈ es, f.A b) ∨ B.heap.size ≤ b := by
    intro F h1 h2 e he b hb
    by_cases hw : e.W b
    · have h3 := hs.sub h1
      rcases h3.ownW e (List.mem_append_left _ he) b hw with h4 | ⟨p, hp, h4⟩
      · exact .inr h4
      · rw [List.mem_singleton.1 hp] at h4
        rcases h4 with rfl | ⟨f, hf, h4⟩
        · have h5 := (List.pairwise_append.1 h3.apart).2.2 e he ⟨b, some busy, false, none⟩ (List.mem_singleton.2 rfl)
          exact absurd (by simp) ((h5 b).1 hw)
        · exact .inl ⟨f, hf, h4.a⟩
    · exact h2 e he b hb hw
  cases x with
  | normal => obtain ⟨y, h0, h1, h2⟩ := hr; exact ⟨s, hf, hs, y, h0, h1, key _ h1 h2⟩
  | ret => obtain ⟨y, h0, h1, h2⟩ := hr; exact ⟨s, hf, hs, y, h0, h1, key _ h1 h2⟩
  | exit id => obtain ⟨y, h0, h1, h2⟩ := hr; exact ⟨s, hf, hs, y, h0, h1, key _ h1 h2⟩
  | _ => exact hr.elim
/-- a loop over a function, in a function of its own: the last entries are those that turn; a fact is kept -/
theorem rfiO {C : Cx} (hT : TabOk C.P C.T) (hF : C.F = none) {g : Operand} {ps : Array Tmp} {assign body : Code} {K : Exit → Sy → Prop} {σ : Fr} {L0 L : List Ent} {D : List Deferred} {gf : FuncId} {lb : Array Value} {I α β : Type} {i0 : I} {nx : I → List Value → List Ent → I → Prop} {fin : I → Prop} {H : Res}
    (hcl : callable C.T gf = true) (hg : ev σ g (· = .func (.func gf) #[] lb)) (hit : ItrO C.P gf lb.toList i0 nx fin H) (Inv : I → α → Prop) (E : I → α → List Ent) (S : β → List Ent × Code) (hS : ∀ y, (S y).2 = .ret ∨ ∃ id, (S y).2 = .exit id) (x0 : α) (hi0 : Inv i0 x0) (hL : (L0 ++ E i0 x0).Perm L)
    (hH : ∀ w, St C.M C.B w (L0 ++ E i0 x0) → H.p w ∧ ∀ b, H.A b → ∀ e ∈ E i0 x0, ¬ e.W b) (hps : ∀ i args q j, nx i args q j → args.length = ps.size)
    (round : ∀ l i args q j x w ready busy, nx i args q j → Inv i x → cx ⟨C.P, C.T, C.N, [fun b => b = l ∨ ∃ e ∈ E i x ++ q, e.W b], w, some l⟩ assign (beginK ⟨C.P, C.T, C.N, [fun b => b = l ∨ ∃ e ∈ E i x ++ q, e.W b], w, some l⟩ body (roundW Inv E S l busy w (E i x ++ q) j) l (L0.length + (E i x ++ q).length) ready busy)
      ⟨putPs C.N ps.toList args σ, L0.map Ent.rd ++ (E i x ++ q) ++ [⟨l, some ready, false, none⟩], []⟩)
    (done : ∀ i y b0, fin i → Inv i y → K .normal ⟨σ, L0 ++ E i y ++ [dfe b0], { target := .collected b0, args := #[] } :: D⟩)
    (stop : ∀ y b0, K (exitOf (S y).2) ⟨σ, L0 ++ (S y).1 ++ [dfe b0], { target := .collected b0, args := #[] } :: D⟩) : CodeP C (.rangeFunc g ps assign body) K ⟨σ, L, D⟩ := by
  refine CodeP.from (L' := L0 ++ [rs (mres (factE (Inv i0 x0) :: E i0 x0))]) (fun w hs => ?_) ?_
  · have h1 : St C.M C.B w (L0 ++ (factE (Inv i0 x0) :: E i0 x0)) := ((hs.perm hL).fact hi0).perm List.perm_middle
    simpa using St.pack (Y := []) (by simpa using h1)
  have hset : ∀ e e' : Ent, (L0 ++ [e]).set L0.length e' = L0 ++ [e'] := fun e e' => by simp
  refine CodeP.mono (K := fun x s => (∀ w, St C.M C.B w s.L → False) ∨ ∃ L', (∀ w, St C.M C.B w s.L → St C.M C.B w L') ∧ K x ⟨s.σ, L', s.D⟩) (fun x a w ⟨s, h1, h2, h3⟩ => ?_) ?_
  · rcases h3 with h3 | ⟨L', h3, h4⟩
    · exact (h3 w h2).elim
    · exact ⟨⟨s.σ, L', s.D⟩, ⟨h1.size, h1.defers, h1.slot⟩, h3 w h2, h4⟩
  refine rfO' hT hF hcl hg hit L0.length (fun i x => rs (mres (factE (Inv i x) :: E i x))) (fun y => (rs (mres (S y).1), (S y).2)) hS x0 (by simp) (fun w hs => ?_) hps (fun l i args q j x w ready busy hn => ?_) (fun i y b0 hf => ?_) (fun y b0 => ?_)
  · have h1 := hH w ((St.unpack (Y := []) (by simpa using hs)).sub (by simpa using sub_mid L0 (factE (Inv i0 x0)) (E i0 x0)))
    exact ⟨h1.1, fun b hb hw => by
      obtain ⟨e, he, hw⟩ := (mresW _ _).1 hw
      rcases List.mem_cons.1 he with rfl | he
      · exact factW _ b hw
      · exact h1.2 b hb e he hw⟩
  · by_cases hI : Inv i x
    · have hM : (fun b => b = l ∨ (rs (mres (rs (mres (factE (Inv i x) :: E i x)) :: q))).W b) = fun b => b = l ∨ ∃ e ∈ E i x ++ q, e.W b := by
        funext b; rw [mresW]
        refine propext ⟨fun h => h.imp id fun ⟨e, he, hw⟩ => ?_, fun h => h.imp id fun ⟨e, he, hw⟩ => ?_⟩
        · rcases List.mem_cons.1 he with rfl | he
          · obtain ⟨e, he, hw⟩ := (mresW _ _).1 hw
            rcases List.mem_cons.1 he with rfl | he
            · exact absurd hw (factW _ b)
            · exact ⟨e, List.mem_append_left _ he, hw⟩
          · exact ⟨e, List.mem_append_right _ he, hw⟩
        · rcases List.mem_append.1 he with he | he
          · exact ⟨_, List.mem_cons_self .., (mresW _ _).2 ⟨e, List.mem_cons_of_mem _ he, hw⟩⟩
          · exact ⟨e, List.mem_cons_of_mem _ he, hw⟩
      rw [hM]
      have h1 := cx_ok (C := ⟨C.P, C.T, C.N, [fun b => b = l ∨ ∃ e ∈ E i x ++ q, e.W b], w, some l⟩) hT assign _ _ (round l i args q j x w ready busy hn hI)
      refine CodeP.from (L' := L0.map Ent.rd ++ (E i x ++ q) ++ [⟨l, some ready, false, none⟩]) (fun w' hs => ?_) (h1.mono fun e a w' h => ?_)
      · have e1 : (List.map Ent.rd (L0 ++ [rs (mres (factE (Inv i0 x0) :: E i0 x0))])).set L0.length (rs (mres (rs (mres (factE (Inv i x) :: E i x)) :: q))) ++ [⟨l, some ready, false, none⟩] = L0.map Ent.rd ++ [rs (mres (rs (mres (factE (Inv i x) :: E i x)) :: q))] ++ [⟨l, some ready, false, none⟩] := by
          rw [List.map_append]; simp [List.set_append_right]
        rw [e1] at hs
        have h2 := hs.unpack
        have h3 : St [fun b => b = l ∨ ∃ e ∈ E i x ++ q, e.W b] w w' (L0.map Ent.rd ++ [rs (mres (factE (Inv i x) :: E i x))] ++ (q ++ [⟨l, some ready, false, none⟩])) := by simpa [List.append_assoc] using h2
        have h4 := h3.unpack
        have e2 : L0.map Ent.rd ++ factE (Inv i x) :: E i x ++ (q ++ [⟨l, some ready, false, none⟩]) = L0.map Ent.rd ++ (factE (Inv i x) :: (E i x ++ q ++ [⟨l, some ready, false, none⟩])) := by simp [List.append_assoc]
        rw [e2] at h4
        rw [List.append_assoc]
        exact h4.sub (sub_mid _ _ _)
      · obtain ⟨s, hf, hs, h2⟩ := h
        cases e with
        | normal =>
          obtain ⟨h3, h4⟩ := h2
          have h5 := (cx_ok (C := ⟨C.P, C.T, C.N, [fun b => b = l ∨ ∃ e ∈ E i x ++ q, e.W b], w, some l⟩) hT body _ _ h4).mono fun e a w' h => round_pack (C := ⟨C.P, C.T, C.N, [fun b => b = l ∨ ∃ e ∈ E i x ++ q, e.W b], w, some l⟩) e a w' (roundI_M e a w' (roundW_I e a w' h))
          have h5 := h5.imp fun e s h => roundK_sub (l := l) (busy := busy) (e' := rs (mres (rs (mres (factE (Inv i x) :: E i x)) :: q))) (fun b hb => by
            obtain ⟨e, he, hb⟩ := (mresA _ _).1 hb
            refine (mresA _ _).2 ?_
            rcases List.mem_append.1 he with he | he
            · exact ⟨_, List.mem_cons_self .., (mresA _ _).2 ⟨e, List.mem_cons_of_mem _ he, hb⟩⟩
            · exact ⟨e, List.mem_cons_of_mem _ he, hb⟩) e s h
          obtain ⟨hlt, hget⟩ := List.getElem?_eq_some_iff.1 h3
          have hsp : s.L = s.L.take (L0.length + (E i x ++ q).length) ++ ⟨l, some ready, false, none⟩ :: s.L.drop (L0.length + (E i x ++ q).length + 1) := by
            rw [← hget]; simp
          have hset2 : s.L.set (L0.length + (E i x ++ q).length) ⟨l, some busy, false, none⟩ = s.L.take (L0.length + (E i x ++ q).length) ++ ⟨l, some busy, false, none⟩ :: s.L.drop (L0.length + (E i x ++ q).length + 1) := List.set_eq_take_append_cons_drop.trans (if_pos hlt)
          rw [hset2] at h5
          generalize s.L.take (L0.length + (E i x ++ q).length) = A at *
          generalize s.L.drop (L0.length + (E i x ++ q).length + 1) = Z at *
          refine ⟨⟨s.σ, List.replicate (L0.length + 1) dead ++ ⟨l, some ready, false, none⟩ :: (A ++ Z), s.D⟩, ⟨hf.size, hf.defers, hf.slot⟩, ?_, ?_, ?_⟩
          · rw [hsp] at hs
            exact (hs.perm List.perm_middle.symm).pad _
          · simp
          · refine CodeP.from (L' := A ++ ⟨l, some busy, false, none⟩ :: Z) (fun w2 hs2 => ?_) h5
            have e2 : (List.replicate (L0.length + 1) dead ++ (⟨l, some ready, false, none⟩ : Ent) :: (A ++ Z)).set (L0 ++ [rs (mres (factE (Inv i0 x0) :: E i0 x0))]).length ⟨l, some busy, false, none⟩ = List.replicate (L0.length + 1) dead ++ (⟨l, some busy, false, none⟩ : Ent) :: (A ++ Z) := by
              rw [List.set_append_right _ _ (by simp)]; simp
            rw [e2] at hs2
            exact (hs2.sub (Sub.padL _ _)).perm List.perm_middle
        | _ => exact h2.elim
    · refine CodeP.no fun w' hs => hI ?_
      have e1 : (List.map Ent.rd (L0 ++ [rs (mres (factE (Inv i0 x0) :: E i0 x0))])).set L0.length (rs (mres (rs (mres (factE (Inv i x) :: E i x)) :: q))) ++ [⟨l, some ready, false, none⟩] = L0.map Ent.rd ++ [rs (mres (rs (mres (factE (Inv i x) :: E i x)) :: q))] ++ [⟨l, some ready, false, none⟩] := by
        rw [List.map_append]; simp [List.set_append_right]
      rw [e1] at hs
      have h2 := hs.unpack
      have h3 : St [fun b => b = l ∨ (rs (mres (rs (mres (factE (Inv i x) :: E i x)) :: q))).W b] w w' (L0.map Ent.rd ++ [rs (mres (factE (Inv i x) :: E i x))] ++ (q ++ [⟨l, some ready, false, none⟩])) := by simpa [List.append_assoc] using h2
      exact h3.unpack.factP (by simp)
  · by_cases hI : Inv i y
    · refine .inr ⟨L0 ++ E i y ++ [dfe b0], fun w hs => ?_, done i y b0 hf hI⟩
      rw [hset] at hs
      have h2 := hs.unpack
      rw [List.append_assoc] at h2 ⊢
      exact h2.sub (sub_mid _ _ _)
    · refine .inl fun w hs => hI ?_
      rw [hset] at hs
      exact hs.unpack.factP (by simp)
  · refine .inr ⟨L0 ++ (S y).1 ++ [dfe b0], fun w hs => ?_, stop y b0⟩
    rw [hset] at hs
    exact hs.unpack
end Go.Sx
end
section
namespace Go.Sx
open Go Go.RowKit
set_option linter.unusedVariables false
/-- into a function that turns several entries -/
theorem mres_in {es : List Ent} {w : World} (h : (mres es).p w) : St [(mres es).w] w w es := St.from w _ es (fun e he => ⟨h.1 e he, fun k hk => ⟨_, List.mem_singleton.2 rfl, e, he, hk⟩⟩) h.2
theorem mres_ro {es : List Ent} {w : World} (h : (mres es).p w) : St [] w w (es.map Ent.rd) := by
  refine St.reads fun e he => ?_
  obtain ⟨f, hf, rfl⟩ := List.mem_map.1 he
  exact ⟨(Ent.rdOk f w).2 (h.1 f hf), fun k => Ent.rdW f k⟩
theorem mres_of {M : Bks} {B w : World} {es : List Ent} (h : St M B w es) : (mres es).p w := ⟨h.ok, h.apart⟩
/-- out of it -/
theorem mres_out {es es' L : List Ent} {w w' : World} (hs : St [(mres es).w] w w' L) (hsub : Sub es' L) (hA : ∀ e ∈ es', ∀ k, e.A k → ¬ e.W k → (∃ f ∈ es, f.A k) ∨ w.heap.size ≤ k) : Turns w w' (mres es) (mres es') := by
  have h := hs.sub hsub
  have hW : ∀ e ∈ es', ∀ k, e.W k → (mres es).w k ∨ w.heap.size ≤ k := fun e he k hk => by
    rcases h.ownW e he k hk with h1 | ⟨p, hp, h1⟩
    · exact .inr h1
    · rw [List.mem_singleton.1 hp] at h1; exact .inl h1
  refine Turns.of_st hs (fun k ⟨p, hp, h1⟩ => by rw [List.mem_singleton.1 hp] at h1; exact h1) ⟨h.ok, h.apart⟩ (fun k ⟨e, he, hk⟩ => hW e he k hk) (fun k hk => ?_)
  have hk : ∃ e ∈ es', e.A k := by
    rcases hk with ⟨e, he, hk⟩ | hk
    · exact ⟨e, he, hk.a⟩
    · exact hk
  obtain ⟨e, he, hk⟩ := hk
  by_cases hw : e.W k
  · exact (hW e he k hw).imp .inl id
  · exact (hA e he k hk hw).imp .inr id
/-- one of several turns -/
theorem mres_turn {es : List Ent} {w w' : World} (i : Nat) {r r' : Res} (h : (mres es).p w) (hi : es[i]? = some (rs r)) (ht : Turns w w' r r') : Turns w w' (mres es) (mres (es.set i (rs r'))) := by
  have hs := (mres_in h).turn hi ht
  refine mres_out hs (Sub.refl _) fun e he k hk hw => ?_
  rcases mem_set_cases he with rfl | ⟨j, _, hj⟩
  · rcases ht.A k ((rsA _ _).1 hk) with h1 | h1
    · exact .inl ⟨_, List.mem_of_getElem? hi, (rsA _ _).2 h1⟩
    · exact .inr h1
  · exact .inl ⟨e, List.mem_of_getElem? hj, hk⟩
/-- a call that turns the first entries -/
theorem cTm {C : Cx} {L : List Ent} (es rest : List Ent) {g : FuncId} {vs : List Value} {α : Type} {Φ : World → α → Prop} {v : α → Value} {es' : α → List Ent} {next : Value → List Ent → Prop} (hL : L = es ++ rest)
    (h : ∀ w, St C.M C.B w L → (mres es).p w → Calls C.P g vs.toArray w fun e w' => ∃ x, Φ w x ∧ e = .returned (v x) ∧ Turns w w' (mres es) (mres (es' x))) (go : ∀ w x, C.B.heap.size ≤ w.heap.size → Φ w x → next (v x) (es' x ++ rest)) : CallP C g vs L next := by
  subst hL
  refine ⟨fun w hs => ?_⟩
  have h1 : St C.M C.B w ([] ++ [rs (mres es)] ++ rest) := St.pack (X := []) (by simpa using hs)
  have h2 : ([] ++ [rs (mres es)] ++ rest)[0]? = some (rs (mres es)) := rfl
  refine (h w hs (h1.res h2)).mono fun e w' ⟨x, hx, he, ht⟩ => ⟨_, _, he, ?_, go w x hs.size hx⟩
  have h3 : St C.M C.B w' ([] ++ [rs (mres (es' x))] ++ rest) := h1.turn h2 ht
  simpa using h3.unpack
end Go.Sx
end
section
namespace Go.Proofs.YteamnhpplclmfaaGreatDoor
def tab : Sx.Tab where
  rows := [⟨1, .fn, 1⟩, ⟨2, .int .i64, 1⟩, ⟨3, .int .i64, 1⟩, ⟨4, .bool, 1⟩, ⟨5, .int .u8, 1⟩, ⟨6, .int .u8, 1⟩, ⟨7, .st [(0, 1, false), (1, 1, false), (2, 1, false), (3, 1, false)], 4⟩, ⟨8, .st [(0, 1, false), (1, 1, false), (2, 1, false), (3, 1, false)], 4⟩, ⟨9, .str, 1⟩, ⟨10, .str, 1⟩, ⟨11, .str, 1⟩, ⟨12, .int .u64, 1⟩, ⟨13, .st [(0, 1, false), (1, 1, false)], 2⟩, ⟨14, .st [(0, 1, false), (1, 1, false)], 2⟩, ⟨15, .ptr, 1⟩, ⟨16, .ptr, 1⟩, ⟨17, .ptr, 1⟩, ⟨18, .st [(0, 1, false)], 1⟩, ⟨19, .st [(0, 1, false)], 1⟩, ⟨20, .ifc, 1⟩, ⟨21, .int .i32, 1⟩, ⟨22, .sl 5 1, 1⟩, ⟨23, .fn, 1⟩, ⟨24, .ptr, 1⟩, ⟨25, .fn, 1⟩, ⟨26, .fn, 1⟩, ⟨27, .fn, 1⟩, ⟨28, .fn, 1⟩, ⟨29, .ifc, 1⟩, ⟨30, .ifc, 1⟩, ⟨31, .fn, 1⟩, ⟨32, .int .i64, 1⟩, ⟨33, .fn, 1⟩, ⟨34, .fn, 1⟩, ⟨35, .fn, 1⟩, ⟨36, .sl 22 1, 1⟩, ⟨37, .ptr, 1⟩, ⟨39, .fn, 1⟩, ⟨40, .int .u64, 1⟩, ⟨42, .fn, 1⟩, ⟨43, .fn, 1⟩, ⟨44, .fn, 1⟩, ⟨45, .sl 3 1, 1⟩, ⟨46, .st [(0, 1, false), (1, 1, false), (2, 1, false), (3, 1, false)], 4⟩, ⟨47, .st [(0, 1, false), (1, 1, false), (2, 1, false), (3, 1, false)], 4⟩, ⟨48, .fn, 1⟩, ⟨49, .fn, 1⟩, ⟨50, .sl 65 3, 1⟩, ⟨51, .st [(0, 1, false), (1, 1, false), (2, 1, false), (3, 1, false)], 4⟩, ⟨52, .st [(0, 1, false), (1, 1, false), (2, 1, false), (3, 1, false)], 4⟩, ⟨53, .fn, 1⟩, ⟨54, .fn, 1⟩, ⟨55, .fn, 1⟩, ⟨56, .sl 77 3, 1⟩, ⟨57, .st [(0, 1, false), (1, 1, false), (2, 1, false), (3, 1, false), (4, 1, false), (5, 1, false)], 6⟩, ⟨58, .st [(0, 1, false), (1, 1, false), (2, 1, false), (3, 1, false), (4, 1, false), (5, 1, false)], 6⟩, ⟨59, .st [(0, 6, true), (6, 1, false), (7, 1, false), (8, 1, false), (9, 1, false), (10, 1, false)], 11⟩, ⟨60, .st [(0, 6, true), (6, 1, false), (7, 1, false), (8, 1, false), (9, 1, false), (10, 1, false)], 11⟩, ⟨62, .fn, 1⟩, ⟨63, .fn, 1⟩, ⟨64, .st [(0, 1, false), (1, 1, false), (2, 1, false)], 3⟩, ⟨65, .st [(0, 1, false), (1, 1, false), (2, 1, false)], 3⟩, ⟨66, .fn, 1⟩, ⟨67, .fn, 1⟩, ⟨68, .fn, 1⟩, ⟨69, .fn, 1⟩, ⟨70, .fn, 1⟩, ⟨71, .fn, 1⟩, ⟨72, .fn, 1⟩, ⟨73, .fn, 1⟩, ⟨74, .fn, 1⟩, ⟨75, .fn, 1⟩, ⟨76, .st [(0, 1, false), (1, 1, false), (2, 1, false)], 3⟩, ⟨77, .st [(0, 1, false), (1, 1, false), (2, 1, false)], 3⟩, ⟨78, .fn, 1⟩, ⟨80, .fn, 1⟩, ⟨81, .fn, 1⟩, ⟨82, .fn, 1⟩, ⟨83, .st [(0, 1, false), (1, 1, false), (2, 1, false), (3, 1, false), (4, 1, false), (5, 1, false), (6, 1, false)], 7⟩, ⟨84, .st [(0, 1, false), (1, 1, false), (2, 1, false), (3, 1, false), (4, 1, false), (5, 1, false), (6, 1, false)], 7⟩, ⟨85, .fn, 1⟩, ⟨86, .fn, 1⟩, ⟨87, .fn, 1⟩, ⟨88, .fn, 1⟩, ⟨89, .fn, 1⟩, ⟨91, .fn, 1⟩, ⟨92, .st [(0, 1, false)], 1⟩, ⟨93, .st [(0, 1, false)], 1⟩, ⟨94, .fn, 1⟩, ⟨95, .fn, 1⟩, ⟨96, .fn, 1⟩, ⟨97, .fn, 1⟩, ⟨98, .fn, 1⟩, ⟨99, .map 9 113, 1⟩, ⟨100, .st [(0, 1, false), (1, 1, false), (2, 1, false), (3, 1, false)], 4⟩, ⟨101, .st [(0, 1, false), (1, 1, false), (2, 1, false), (3, 1, false)], 4⟩, ⟨102, .st [(0, 4, true), (4, 1, false), (5, 1, false)], 6⟩, ⟨103, .st [(0, 4, true), (4, 1, false), (5, 1, false)], 6⟩, ⟨104, .fn, 1⟩, ⟨105, .fn, 1⟩, ⟨106, .sl 9 1, 1⟩, ⟨107, .fn, 1⟩, ⟨108, .fn, 1⟩, ⟨109, .fn, 1⟩, ⟨110, .fn, 1⟩, ⟨111, .fn, 1⟩, ⟨112, .st [(0, 1, false), (1, 1, false)], 2⟩, ⟨113, .st [(0, 1, false), (1, 1, false)], 2⟩, ⟨114, .fn, 1⟩, ⟨115, .fn, 1⟩, ⟨116, .fn, 1⟩, ⟨117, .sl 120 2, 1⟩, ⟨118, .fn, 1⟩, ⟨119, .st [(0, 1, false), (1, 1, false)], 2⟩, ⟨120, .st [(0, 1, false), (1, 1, false)], 2⟩, ⟨121, .fn, 1⟩, ⟨123, .fn, 1⟩, ⟨125, .fn, 1⟩, ⟨126, .fn, 1⟩, ⟨127, .int .u32, 1⟩, ⟨128, .fn, 1⟩, ⟨129, .fn, 1⟩, ⟨130, .fn, 1⟩, ⟨131, .fn, 1⟩, ⟨132, .fn, 1⟩, ⟨133, .fn, 1⟩, ⟨135, .fn, 1⟩, ⟨136, .fn, 1⟩, ⟨137, .fn, 1⟩, ⟨138, .fn, 1⟩, ⟨139, .ptr, 1⟩, ⟨140, .fn, 1⟩, ⟨141, .fn, 1⟩, ⟨143, .fn, 1⟩, ⟨144, .fn, 1⟩, ⟨146, .fn, 1⟩, ⟨147, .fn, 1⟩, ⟨148, .fn, 1⟩, ⟨149, .fn, 1⟩, ⟨150, .fn, 1⟩, ⟨151, .fn, 1⟩, ⟨152, .fn, 1⟩, ⟨153, .fn, 1⟩, ⟨154, .fn, 1⟩, ⟨155, .fn, 1⟩, ⟨156, .ptr, 1⟩, ⟨157, .fn, 1⟩, ⟨158, .fn, 1⟩, ⟨160, .fn, 1⟩, ⟨161, .ptr, 1⟩, ⟨162, .st [(0, 1, false), (1, 1, false)], 2⟩, ⟨163, .st [(0, 1, false), (1, 1, false)], 2⟩, ⟨165, .fn, 1⟩, ⟨166, .fn, 1⟩, ⟨168, .arr 4 5 1 false, 4⟩, ⟨169, .fn, 1⟩, ⟨170, .fn, 1⟩, ⟨171, .arr 16 127 1 false, 16⟩, ⟨172, .fn, 1⟩, ⟨173, .fn, 1⟩, ⟨175, .fn, 1⟩, ⟨176, .int .u64, 1⟩, ⟨178, .fn, 1⟩, ⟨179, .ptr, 1⟩, ⟨180, .fn, 1⟩, ⟨181, .fn, 1⟩, ⟨182, .fn, 1⟩, ⟨183, .arr 24 5 1 false, 24⟩, ⟨184, .fn, 1⟩, ⟨185, .fn, 1⟩, ⟨187, .fn, 1⟩, ⟨188, .up, 1⟩, ⟨189, .fn, 1⟩, ⟨190, .fn, 1⟩, ⟨191, .fn, 1⟩, ⟨192, .int .i64, 1⟩, ⟨194, .fn, 1⟩, ⟨195, .fn, 1⟩, ⟨196, .fn, 1⟩, ⟨198, .fn, 1⟩, ⟨199, .fn, 1⟩, ⟨200, .fn, 1⟩, ⟨201, .arr 20 176 1 false, 20⟩, ⟨202, .arr 65 5 1 false, 65⟩, ⟨203, .fn, 1⟩, ⟨204, .int .u64, 1⟩, ⟨205, .fn, 1⟩, ⟨206, .fn, 1⟩, ⟨207, .fn, 1⟩, ⟨208, .ptr, 1⟩, ⟨210, .ptr, 1⟩, ⟨213, .arr 32 5 1 false, 32⟩, ⟨214, .arr 64 5 1 false, 64⟩, ⟨216, .st [(0, 1, false), (1, 1, false), (2, 1, false), (3, 1, false)], 4⟩, ⟨220, .int .u8, 1⟩, ⟨221, .int .u8, 1⟩, ⟨222, .fn, 1⟩]
  zero := [(3, #[.int .i64 0]), (4, #[.bool false]), (9, #[.string { data := #[] }]), (22, #[.slice none 0 0]), (24, #[.pointer none]), (36, #[.slice none 0 0]), (58, #[.int .i64 0, .int .i64 0, .int .i64 0, .bool false, .bool false, .slice none 0 0]), (60, #[.int .i64 0, .int .i64 0, .int .i64 0, .bool false, .bool false, .slice none 0 0, .int .i64 0, .slice none 0 0, .int .i64 0, .int .i64 0, .int .i64 0]), (65, #[.int .i64 0, .int .i64 0, .slice none 0 0]), (77, #[.string { data := #[] }, .slice none 0 0, .int .i64 0]), (93, #[.nilIface]), (113, #[.slice none 0 0, .int .i64 0]), (163, #[.pointer none, .slice none 0 0]), (168, #[.int .u8 0, .int .u8 0, .int .u8 0, .int .u8 0]), (171, (List.replicate 16 (.int .u32 0)).toArray), (183, (List.replicate 24 (.int .u8 0)).toArray), (202, (List.replicate 65 (.int .u8 0)).toArray), (204, #[.int .u64 0])]
  fns := 198
  ext := [0, 1, 134, 148, 149, 174, 175, 176, 177, 178, 179, 180, 181, 182, 183, 184, 185, 186, 187, 188, 189, 190, 191, 192, 193, 194, 195, 196]
theorem tab_ok : Sx.TabOk Tryz.prog tab := ⟨by kernel_rfl, by kernel_rfl, ⟨by kernel_rfl, by kernel_rfl, by kernel_rfl, by kernel_rfl, by kernel_rfl, by kernel_rfl, by kernel_rfl, by kernel_rfl, by kernel_rfl, by kernel_rfl, by kernel_rfl, by kernel_rfl, by kernel_rfl, by kernel_rfl, by kernel_rfl, by kernel_rfl, by kernel_rfl, by kernel_rfl, trivial⟩⟩
theorem mixed_ok : Tryz.prog.follows .mixedOrders = true := by kernel_rfl
end Go.Proofs.YteamnhpplclmfaaGreatDoor
end
section
namespace Go.Proofs.YteamnhpplclmfaaGreatDoor
open Go.RowKit Go.Sx
set_option linter.unusedVariables false

theorem info5 : (Tryz.prog.info? 5).map (fun i => (i.zero, i.size, i.bytes)) = some (some (.int .u8 0), 1, 1) := by kernel_rfl
theorem und22 : Tryz.prog.underlying 22 = some (.slice 5) := by kernel_rfl
theorem undST : Tryz.prog.underlying 9 = some .string := by kernel_rfl
theorem undU8 : Tryz.prog.underlying 5 = some (.int .u8) := by kernel_rfl
abbrev ptr (b : Nat) : Value := .pointer (some ⟨b, 0, none⟩)
abbrev VS (l : List UInt8) : Value := .string ⟨l.toArray⟩
/-- an error by its number -/
def ErrN (n : Nat) : Value := .iface 32 (.int .i64 n)
/-- an error or none -/
def errV (n : Nat) : Value := if n = 0 then .nilIface else ErrN n
theorem errV0 : errV 0 = .nilIface := rfl
theorem errVs (n : Nat) (h : n ≠ 0) : errV n = ErrN n := if_neg h
theorem size_mk (l : List UInt8) : (ByteArray.mk l.toArray).size = l.length := by simp [ByteArray.size]
theorem bs1 (x : Int) (w : World) : (Instr.buildSlice 22 1 #[(0, .int .u8 x)]).run Tryz.prog w = .ok (.slice (some ⟨w.heap.size, 0, none⟩) 1 1) (w.alloc (.cells #[.int .u8 x] 5)) := by
  obtain ⟨i, hi, hz, hs, hb⟩ := infoOf info5
  exact run_buildSlice w _ _ 1 _ #[.int .u8 x] i (.int .u8 0) und22 hi hz (by rw [hs]; decide) (by rw [hs]; decide) (by rw [hs]; kernel_rfl)
theorem bs2 (x y : Int) (w : World) : (Instr.buildSlice 22 2 #[(0, .int .u8 x), (1, .int .u8 y)]).run Tryz.prog w = .ok (.slice (some ⟨w.heap.size, 0, none⟩) 2 2) (w.alloc (.cells #[.int .u8 x, .int .u8 y] 5)) := by
  obtain ⟨i, hi, hz, hs, hb⟩ := infoOf info5
  exact run_buildSlice w _ _ 2 _ #[.int .u8 x, .int .u8 y] i (.int .u8 0) und22 hi hz (by rw [hs]; decide) (by rw [hs]; decide) (by rw [hs]; kernel_rfl)
theorem bsl0 (w : World) : (Instr.buildSlice 22 0 #[]).run Tryz.prog w = .ok (.slice (some ⟨w.heap.size, 0, none⟩) 0 0) (w.alloc (.cells #[] 5)) := by
  obtain ⟨i, hi, hz, hs, hb⟩ := infoOf info5
  simp [Instr.buildSlice, run_underlying und22, sizeOf, typeInfo, hi, newRow, Instr.fill]
  exact congrArg (fun c => w.alloc (.cells c 5)) (Array.ext' (by simp))
theorem madeU8 (w : World) {P : Program} {t e : TypeId} (ht : P.underlying t = some (.slice e)) (hi : (P.info? e).map (fun i => (i.zero, i.size, i.bytes)) = some (some (.int .u8 0), 1, 1)) (l c : Nat) (hlc : l ≤ c) (hc : c ≤ 100000000) :
    (Instr.makeSlice t (.int .i64 (l : Int)) (.int .i64 (c : Int))).run P w = .ok (.slice (some ⟨w.heap.size, 0, none⟩) l c) (w.alloc (.cells (List.replicate c (.int .u8 0)).toArray e)) := by
  obtain ⟨i, hi, hz, hs, hb⟩ := infoOf hi
  have h := run_make (P := P) w t e i _ ht hi hz .i64 .i64 (l : Int) (c : Int) (by omega) (by omega) (by rw [hb]; omega) (by omega)
  rw [hs] at h
  simp only [Int.toNat_natCast, Nat.mul_one] at h
  rw [h]
  congr 2
  simp only [madeCells]
  congr 1
  apply Array.ext
  · simp
  · intro i h1 h2
    simp [Value.cells, Nat.mod_one]
theorem one8 (l : List UInt8) : ∀ u ∈ Lib.byteCells l, u.oneCell' = true := by
  intro u hu
  obtain ⟨b, _, rfl⟩ := List.mem_map.1 hu
  rfl
theorem rd_at {w : World} {v : Value} {xs : List Value} (h : Rd w v xs) (hx : xs ≠ []) : ∃ b o c, v = .slice (some ⟨b, o, none⟩) xs.length c ∧ b < w.heap.size ∧ ∀ j u, xs[j]? = some u → w.cell? ⟨b, o + j, none⟩ = some u := by
  obtain ⟨a, c, h0, h1⟩ := h
  obtain ⟨b, o, rfl, h2, h3⟩ := h1 hx
  exact ⟨b, o, c, h0, h2, h3⟩
theorem rd_nil (w : World) (a : Option Addr) (c : Nat) : Rd w (.slice a 0 c) (Lib.byteCells []) := ⟨a, c, rfl, fun h => absurd rfl h⟩
theorem rd_str {w : World} {v : Value} {l : List UInt8} (h : Rd w v (Lib.byteCells l)) : (convert 22 9 v).run Tryz.prog w = .ok (VS l) w := by
  obtain ⟨a, c, rfl, h1⟩ := h
  rw [Lib.byteCells_length]
  by_cases h0 : l = []
  · subst h0
    cases a with
    | none => exact run_convert_bytes_nil w _ _ und22 undU8 0 c _ undST
    | some a => exact run_convert_bytes_back w _ _ _ a c [] und22 undU8 undST (fun j hj => by cases hj)
  · obtain ⟨b, o, rfl, _, hc⟩ := h1 (by intro h; apply h0; have := congrArg List.length h; rw [Lib.byteCells_length] at this; exact List.eq_nil_of_length_eq_zero this)
    exact run_convert_bytes_back w _ _ _ _ c l und22 undU8 undST (fun j hj => by rw [addr_add]; exact hc j _ (by simp [Lib.byteCells, hj]))
theorem list_beq (a b : List UInt8) : ((ByteArray.mk a.toArray).toList == (ByteArray.mk b.toArray).toList) = decide (a = b) := by rw [Bool.eq_iff_iff]; simp
/-- a constant text against another -/
theorem const_beq (a b : ByteArray) : (a.toList == b.toList) = decide (a.data.toList = b.data.toList) := by
  have := list_beq a.data.toList b.data.toList
  simpa using this
set_option maxRecDepth 100000 in
theorem same_any (va vb : Value) (a b : List UInt8) (w : World) (ha : Rd w va (Lib.byteCells a)) (hb : Rd w vb (Lib.byteCells b)) : Calls Tryz.prog 22 ([va, vb] : List Value).toArray w fun e w' => e = .returned (.bool (decide (a = b))) ∧ Below w.heap.size w w' := by
  refine enterV tab_ok Tryz.func22 rfl Tryz.ntmps22 rfl (St.start w) ?_
  refine semV (fun w' hs => rd_str (ha.below hs.below)) ?_
  refine semV (fun w' hs => rd_str (hb.below hs.below)) ?_
  exact rt (congrArg Value.bool (list_beq a b))
theorem same_yes (va vb : Value) (a : List UInt8) (w : World) (ha : Rd w va (Lib.byteCells a)) (hb : Rd w vb (Lib.byteCells a)) : Calls Tryz.prog 22 ([va, vb] : List Value).toArray w fun e w' => e = .returned (.bool true) ∧ Below w.heap.size w w' := by
  have := same_any va vb a a w ha hb
  rwa [decide_eq_true rfl] at this
theorem assertN (n : Nat) (w : World) : (Instr.typeAssert (ErrN n) 30 32 true).run Tryz.prog w = .ok (.tuple #[.int .i64 n, .bool true]) w := by
  kernel_rfl
set_option maxRecDepth 100000 in
theorem num_any (n : Nat) (w : World) : Calls Tryz.prog 27 ([errV n] : List Value).toArray w fun e w' => e = .returned (.int .i64 n) ∧ Below w.heap.size w w' := by
  refine enterV tab_ok Tryz.func27 rfl Tryz.ntmps27 rfl (St.start w) ?_
  by_cases h0 : n = 0
  · subst h0
    refine ct rfl ?_
    exact rt rfl
  rw [errVs n h0]
  refine cf rfl ?_
  refine semV (fun w _ => assertN n w) ?_
  refine ct rfl ?_
  refine ct rfl ?_
  refine ct rfl ?_
  refine ct (bne_iff_ne.2 (by omega)) ?_
  exact rt rfl
set_option maxRecDepth 100000 in
theorem is_any (n m : Nat) (w : World) : Calls Tryz.prog 11 ([errV n, .int .i64 m] : List Value).toArray w fun e w' => e = .returned (.bool (decide (n = m))) ∧ Below w.heap.size w w' := by
  refine enterV tab_ok Tryz.func11 rfl Tryz.ntmps11 rfl (St.start w) ?_
  refine cv (num_any n) ?_
  refine rt (congrArg Value.bool ?_)
  rw [Bool.eq_iff_iff, beq_iff_eq, decide_eq_true_eq]; omega
/-- the marks -/
def marks : List Value := [.int .u8 165, .int .u8 90]
set_option maxRecDepth 100000 in
/-- a copy of bytes, with marks behind it -/
theorem copy_any (v : Value) (x : List UInt8) (hx : x.length ≤ 1000000) (w : World) (hv : Rd w v (Lib.byteCells x)) : Calls Tryz.prog 77 ([v] : List Value).toArray w fun e w' =>
    ∃ b c j, e = .returned (sv (some (b, c, marks ++ j)) x.length) ∧ Rw 1 x.length (some (b, c, marks ++ j)) (Lib.byteCells x) ∧ w.heap.size ≤ b ∧ w'.heap[b]? = some (.cells (Lib.byteCells x ++ (marks ++ j)).toArray 5 (0, 0)) ∧ Below w.heap.size w w' := by
  have hv0 := hv
  obtain ⟨va, vc, rfl, _⟩ := hv
  rw [Lib.byteCells_length] at hv0 ⊢
  refine (enter tab_ok Tryz.func77 rfl Tryz.ntmps77 rfl (St.start w) (R := fun v w' => ∃ b c j, v = sv (some (b, c, marks ++ j)) x.length ∧ Rw 1 x.length (some (b, c, marks ++ j)) (Lib.byteCells x) ∧ w.heap.size ≤ b ∧ w'.heap[b]? = some (.cells (Lib.byteCells x ++ (marks ++ j)).toArray 5 (0, 0)) ∧ Below w.heap.size w w') ?_).mono (fun e w' ⟨v, he, b, c, j, h1, h2⟩ => ⟨b, c, j, by rw [he, h1], h2⟩)
  refine .as ((x.length + 2 : Nat) : Int) (by simp) (by simp only [mn]; omega) (by simp only [mx]; omega) ?_
  refine .mk 0 (x.length + 2) _ _ (fun w => madeU8 w und22 info5 0 (x.length + 2) (Nat.zero_le _) (by omega)) (fun b1 => ?_)
  refine ap (r := some (b1, x.length + 2, List.replicate (x.length + 2) (.int .u8 0))) (xs := []) (n := 0) (m := (Lib.byteCells x).length) (news := Lib.byteCells x) 0 tab_ok rfl info5 rfl rfl ⟨rfl, Nat.zero_le _, by unfold maxLen; omega, by simp⟩ (fun w' hs => (hv0.below hs.below).src und22 (one8 x)) (by rw [Lib.byteCells_length]; omega) (by rw [Lib.byteCells_length]; unfold maxLen; omega) (fun r1 hR1 => ?_)
  refine .mk _ _ (bs2 165 90) (fun b2 => ?_)
  refine ap 0 (news := marks) (m := 2) tab_ok rfl info5 rfl rfl hR1 (srcE (C := ⟨Tryz.prog, tab, 14, [], w, none⟩) (e' := 5) (tx := 22) (z := 1) rfl tab_ok (src 1 rfl rfl) rfl (by simp [marks, Value.oneCell'])) (by rw [Lib.byteCells_length]; omega) (by rw [Lib.byteCells_length]; unfold maxLen; omega) (fun r2 hR2 => ?_)
  rw [Lib.byteCells_length] at hR2
  rw [Lib.byteCells_length]
  cases r2 with
  | none => have := hR2.2; simp only at this; omega
  | some p =>
    obtain ⟨b, c, j⟩ := p
    obtain ⟨h1, h2, h3, h4⟩ := hR2
    refine slTo (by rintro a h; obtain rfl := Option.some.inj h; rfl) (by omega) h2 ?_
    refine ⟨fun w1 hs => ⟨b, c, j, rfl, ⟨by rw [Lib.byteCells_length]; omega, by omega, h3, by simpa using h4⟩, ?_, ?_, hs.below⟩⟩
    · rcases hs.own _ (List.mem_of_getElem? (i := 0) rfl) rfl rfl with h | h
      · exact h
      · simp at h
    · have := hs.nth (k := 0) rfl
      simpa using this
set_option maxRecDepth 100000 in
/-- a copy says what the bytes say, and its marks stand -/
theorem kept_yes {va vb : Value} {b c : Nat} {j : List Value} {x : List UInt8} (hx : x.length ≤ 1000000) (hva : va = sv (some (b, c, marks ++ j)) x.length) (hR : Rw 1 x.length (some (b, c, marks ++ j)) (Lib.byteCells x)) (w : World) (ha : w.heap[b]? = some (.cells (Lib.byteCells x ++ (marks ++ j)).toArray 5 (0, 0))) (hb : Rd w vb (Lib.byteCells x)) :
    Calls Tryz.prog 30 ([va, vb] : List Value).toArray w fun e w' => e = .returned (.bool true) ∧ Below w.heap.size w w' := by
  subst hva
  have hb0 := hb
  obtain ⟨a2, c2, rfl, _⟩ := hb
  rw [Lib.byteCells_length] at hb0 ⊢
  obtain ⟨h1, h2, h3, h4⟩ := hR
  have hc : x.length + 2 ≤ c := by
    have : (Lib.byteCells x ++ (marks ++ j)).length = c * 1 := h4
    simp [marks, Lib.byteCells_length] at this; omega
  have e1 : ((ByteArray.mk x.toArray).toList == (ByteArray.mk x.toArray).toList) = true := by simp
  refine enterV tab_ok Tryz.func30 rfl Tryz.ntmps30 rfl (St.reads1 ha) ?_
  refine semV (fun w' hs => rd_str (l := x) (Rd.ent hs 0 (n := x.length) rfl (by rw [Lib.byteCells_length]) (by simp [Lib.byteCells_length]))) ?_
  refine semV (fun w' hs => rd_str (hb0.below hs.below)) ?_
  have e2 : ((!((ByteArray.mk x.toArray).toList == (ByteArray.mk x.toArray).toList)) == false) = true := by rw [e1]; rfl
  refine ct e2 ?_
  refine ct e2 ?_
  refine ct e2 ?_
  refine ct e2 ?_
  refine ct e2 ?_
  refine .as ((x.length + 2 : Nat) : Int) (by simp) (by simp only [mn]; omega) (by simp only [mx]; omega) ?_
  refine ct e2 ?_
  refine cf (by rw [e1]; rfl) ?_
  refine cf (decide_eq_false (by omega)) ?_
  refine .as ((x.length + 2 : Nat) : Int) (by simp) (by simp only [mn]; omega) (by simp only [mx]; omega) ?_
  refine ⟨.mk 0 (x.length + 2) c rfl rfl rfl (Nat.zero_le _) hc (Nat.le_refl _) (by simp) ?_⟩
  refine .on (by omega) ?_
  refine ⟨by omega, by omega, ?_⟩
  refine ld1 0 rfl (v := .int .u8 165) (by rw [nad_eq, nmu_eq]; simp [nad_eq, nmu_eq, marks, Lib.byteCells_length]) ?_
  refine ct rfl ?_
  refine ct rfl ?_
  refine ct rfl ?_
  refine ct rfl ?_
  refine .as ((x.length + 1 : Nat) : Int) (by simp) (by simp only [mn]; omega) (by simp only [mx]; omega) ?_
  refine ct rfl ?_
  refine ⟨by omega, by omega, ?_⟩
  refine ct rfl ?_
  refine ld1 0 rfl (v := .int .u8 90) (by rw [nad_eq, nmu_eq]; simp [nad_eq, nmu_eq, marks, Lib.byteCells_length]) ?_
  refine ct rfl ?_
  refine ct rfl ?_
  exact rt rfl
end Go.Proofs.YteamnhpplclmfaaGreatDoor
end
section
namespace Go.Proofs.YteamnhpplclmfaaGreatDoor
open Go.RowKit Go.Sx
set_option linter.unusedVariables false

def overL (x : List UInt8) (i : Nat) : List Value := Lib.byteCells ((x.take i).map (· ^^^ 255)) ++ Lib.byteCells (x.drop i)
theorem overL_len (x : List UInt8) (i : Nat) : (overL x i).length = x.length := by simp [overL, Lib.byteCells_length]; omega
theorem over_get (x : List UInt8) (i : Nat) (h : i < x.length) (j : List Value) : (overL x i ++ j).toArray[i]? = some (.int .u8 (x[i].toNat : Nat)) := by
  have h1 : (Lib.byteCells ((x.take i).map (· ^^^ 255))).length = i := by simp [Lib.byteCells_length]; omega
  unfold overL
  simp only [List.getElem?_toArray, List.append_assoc]
  rw [List.getElem?_append_right (by omega), h1, Nat.sub_self, List.drop_eq_getElem_cons h]
  rfl
theorem over_set (x : List UInt8) (i : Nat) (h : i < x.length) (j : List Value) : (overL x i ++ j).toArray.setIfInBounds i (.int .u8 ((x[i] ^^^ 255).toNat : Nat)) = (overL x (i + 1) ++ j).toArray := by
  have h1 : (Lib.byteCells ((x.take i).map (· ^^^ 255))).length = i := by simp [Lib.byteCells_length]; omega
  apply Array.ext'
  unfold overL
  simp only [Array.toList_setIfInBounds, List.append_assoc]
  rw [List.set_append_right _ _ (by omega), h1, Nat.sub_self, List.drop_eq_getElem_cons h, List.take_succ_eq_append_getElem h, List.map_append, Lib.byteCells_append, List.append_assoc]
  rfl
theorem xor255 (c : UInt8) : bitI .xor .u8 (c.toNat : Int) 255 = ((c ^^^ 255).toNat : Nat) := by
  have : ∀ n, n < 256 → bitI .xor .u8 ((UInt8.ofNat n).toNat : Int) 255 = ((UInt8.ofNat n ^^^ 255).toNat : Nat) := by decide +kernel
  have h := this c.toNat (UInt8.toNat_lt c)
  simpa using h
section
variable {N : Nat} {M : Bks} {B : World} {F : Option Nat} {L : List Ent} {next : Value → List Ent → Prop}
set_option maxRecDepth 100000 in
/-- bytes of one's own are written over -/
theorem over_in (k : Nat) {r : Sx.Own} {x : List UInt8} (hk : L[k]? = some (se r (Lib.byteCells x) 5)) (hR : Rw 1 x.length r (Lib.byteCells x)) (hx : x.length ≤ 1000000) (go : next (.tuple #[]) (L.set k dead)) :
    CallP ⟨Tryz.prog, tab, N, M, B, F⟩ 31 [sv r x.length] L next := by
  have hkl : k < L.length := (List.getElem?_eq_some_iff.1 hk).1
  cases r with
  | none =>
    have h0 : x.length = 0 := hR.2
    rw [h0]
    refine inl (C := ⟨Tryz.prog, tab, N, M, B, F⟩) tab_ok Tryz.func31 rfl Tryz.ntmps31 rfl ?_
    refine lp tab_ok (fun x : Unit => True) (fun _ => ⟨[(0, .slice none 0 0), (3, .slice none 0 0), (4, .int .i64 0), (5, .int .i64 0)], L, []⟩) (fun _ => 0) () trivial ⟨⟨rfl, rfl, rfl, rfl, trivial⟩, Sub.refl L, rfl⟩ ?_
    intro _ _
    refine cf rfl ?_
    rw [show L.set k dead = L from set_same hk] at go
    exact bk go
  | some p =>
    obtain ⟨b, c, j⟩ := p
    refine inl (C := ⟨Tryz.prog, tab, N, M, B, F⟩) tab_ok Tryz.func31 rfl Tryz.ntmps31 rfl ?_
    refine lp tab_ok (fun i : Nat => i ≤ x.length) (fun i => ⟨[(0, .slice (some ⟨b, 0, none⟩) x.length c), (4, .int .i64 x.length), (5, .int .i64 i)], L.set k (cl b (overL x i ++ j).toArray 5), []⟩) (fun i => x.length - i) 0 (Nat.zero_le _)
      ⟨⟨rfl, rfl, rfl, trivial⟩, ?_, rfl⟩ ?_
    · have e1 : overL x 0 = Lib.byteCells x := by simp [overL, Lib.byteCells]
      rw [e1]
      have := set_same hk
      rw [show cl b (Lib.byteCells x ++ j).toArray 5 = se (some (b, c, j)) (Lib.byteCells x) 5 from rfl, this]
      exact Sub.refl L
    intro i hi
    have hat : (L.set k (cl b (overL x i ++ j).toArray 5))[k]? = some (cl b (overL x i ++ j).toArray 5) := by simp [hkl]
    refine cd (fun h => ?_) (fun h => ?_)
    · have hlt : i < x.length := by omega
      refine ⟨by omega, by omega, ?_⟩
      have eo : nad 0 (nmu ((i : Nat) : Int).toNat 1) = i := by rw [nad_eq, nmu_eq]; simp
      refine ld1 k hat (v := .int .u8 (x[i].toNat : Nat)) (by rw [eo]; exact over_get x i hlt j) ?_
      refine ⟨by omega, by omega, ?_⟩
      refine s1 k hat (by rw [eo]; simp [overL_len]; omega) ?_
      refine .as ((i + 1 : Nat) : Int) (by simp) (by simp only [mn]; omega) (by simp only [mx]; omega) ?_
      refine ⟨i + 1, by omega, by omega, ⟨⟨rfl, rfl, rfl, trivial⟩, ?_, rfl⟩⟩
      rw [eo, xor255, List.set_set, over_set x i hlt j]
      exact Sub.refl _
    · refine bkS ?_ go
      have : L.set k dead = (L.set k (cl b (overL x i ++ j).toArray 5)).set k dead := by rw [List.set_set]
      rw [this]
      exact sub_dead k
end
/-- texts «as» cells -/
def txtCells (a : List (List UInt8)) : List Value := a.map VS
theorem txt_one (a : List (List UInt8)) : ∀ u ∈ txtCells a, u.oneCell' = true := by
  intro u hu
  obtain ⟨b, _, rfl⟩ := List.mem_map.1 hu
  rfl
set_option maxRecDepth 100000 in
theorem texts_any (va vb : Value) (a b : List (List UInt8)) (ha0 : a.length ≤ 1000000) (hb0 : b.length ≤ maxLen) (w : World) (ha : Rd w va (txtCells a)) (hb : Rd w vb (txtCells b)) : Calls Tryz.prog 85 ([va, vb] : List Value).toArray w fun e w' => e = .returned (.bool (decide (a = b))) ∧ Below w.heap.size w w' := by
  have ha1 := ha
  have hb1 := hb
  obtain ⟨a1, c1, rfl, _⟩ := ha
  obtain ⟨a2, c2, rfl, _⟩ := hb
  have l1 : (txtCells a).length = a.length := by simp [txtCells]
  have l2 : (txtCells b).length = b.length := by simp [txtCells]
  rw [l1] at ha1 ⊢
  rw [l2] at hb1 ⊢
  refine enterV tab_ok Tryz.func85 rfl Tryz.ntmps85 rfl (St.start w) ?_
  refine cne (fun h => ?_) (fun h => ?_)
  · refine rt (congrArg Value.bool ?_)
    exact (decide_eq_false (by rintro rfl; exact h rfl)).symm
  have hl : a.length = b.length := by omega
  refine lp tab_ok (fun i : Nat => i ≤ a.length ∧ a.take i = b.take i) (fun i => ⟨[(0, .slice a1 a.length c1), (1, .slice a2 b.length c2), (12, .int .i64 a.length), (13, .int .i64 i)], [], []⟩) (fun i => a.length - i) 0 ⟨Nat.zero_le _, rfl⟩
    ⟨⟨rfl, rfl, rfl, rfl, trivial⟩, .nil, rfl⟩ ?_
  rintro i ⟨hi, hpre⟩
  refine cd (fun h => ?_) (fun h => ?_)
  · have hlt : i < a.length := by omega
    obtain ⟨p1, o1, d1, e1, hp1, hc1⟩ := rd_at ha1 (by intro h; rw [h] at l1; simp at l1; omega)
    obtain ⟨p2, o2, d2, e2, hp2, hc2⟩ := rd_at hb1 (by intro h; rw [h] at l2; simp at l2; omega)
    injection e1 with e1 _ e1'
    injection e2 with e2 _ e2'
    subst e1 e1' e2 e2'
    have hlb : i < b.length := by omega
    refine dr [] 99 (.t 0 (.t 1 (.t 2 (.t 3 (.t 4 (.t 5 (.t 6 (.t 7 (.t 8 .nil))))))))) tab_ok mixed_ok (by kernel_rfl) .nil ?_
    refine ⟨by omega, by omega, ?_⟩
    refine ldo (v := VS a[i]) (by rw [nad_eq, nmu_eq, Int.toNat_natCast, Nat.mul_one]; exact hc1 i _ (by simp [txtCells, hlt])) hp1 ?_
    refine ⟨by omega, by omega, ?_⟩
    refine ldo (v := VS b[i]) (by rw [nad_eq, nmu_eq, Int.toNat_natCast, Nat.mul_one]; exact hc2 i _ (by simp [txtCells, hlb])) hp2 ?_
    have hbe := list_beq a[i] b[i]
    by_cases he : a[i] = b[i]
    · refine cf (by show (!_) = false; rw [hbe, decide_eq_true he]; rfl) ?_
      refine .as ((i + 1 : Nat) : Int) (by simp) (by simp only [mn]; omega) (by simp only [mx]; omega) ?_
      refine ⟨i + 1, ⟨by omega, ?_⟩, by omega, ⟨⟨rfl, rfl, rfl, rfl, trivial⟩, .nil, rfl⟩⟩
      rw [List.take_succ_eq_append_getElem hlt, List.take_succ_eq_append_getElem hlb, hpre, he]
    · refine ct (by show (!_) = true; rw [hbe, decide_eq_false he]; rfl) ?_
      refine rt (congrArg Value.bool ?_)
      exact (decide_eq_false (fun h => he (by subst h; rfl))).symm
  · obtain rfl : i = a.length := by omega
    refine rt (congrArg Value.bool ?_)
    refine (decide_eq_true ?_).symm
    rw [List.take_of_length_le (Nat.le_refl _), List.take_of_length_le (by omega)] at hpre
    exact hpre
end Go.Proofs.YteamnhpplclmfaaGreatDoor
end
section
namespace Go.Proofs.YteamnhpplclmfaaGreatDoor
open Go.RowKit Go.Sx
set_option linter.unusedVariables false

abbrev TM : Nat := 99
abbrev TF : Nat := 113
abbrev TD : Nat := 103
theorem undM : Tryz.prog.underlying TM = some (.map 9 TF) := by kernel_rfl
theorem keyM : KeyOk Tryz.prog 9 keS := keyStr undST
/-- a file -/
structure Fe where
  name : List UInt8
  bs : List UInt8
  sure : Nat
/-- a disk -/
structure Dk where
  steps : Nat
  left : Nat
  armed : Bool
  gone : Bool
  quota : Nat
  files : List Fe
/-- where it lies -/
structure DkS where
  D : Dk
  bd : Nat
  bm : Nat
  rr : Nat → Prop
  es : Es (List UInt8)
  clk : Nat
def dkC (D : Dk) (bm : Nat) : Array Value := #[.int .i64 D.steps, .int .i64 D.left, .bool D.armed, .bool D.gone, .int .i64 D.quota, .map (some bm)]
/-- an entry and a file -/
def EF (rr : Nat → Prop) (u : World) (e : List UInt8 × Value × Nat) (f : Fe) : Prop := e.1 = f.name ∧ ∃ v, e.2.1 = .agg #[v, .int .i64 f.sure] ∧ RdR rr u v (Lib.byteCells f.bs)
structure FilesOk (rr : Nat → Prop) (u : World) (es : Es (List UInt8)) (clk : Nat) (fs : List Fe) : Prop where
  all : All2 (EF rr u) es fs
  nb : (es.map (·.2.2)).Nodup
  lt : ∀ e ∈ es, e.2.2 < clk
  nn : (fs.map (·.name)).Nodup
  sz : ∀ f ∈ fs, f.sure ≤ f.bs.length ∧ f.bs.length ≤ 16777216 ∧ f.name.length ≤ 64
structure DkP (S : DkS) (u : World) : Prop where
  d : u.heap[S.bd]? = some (.cells (dkC S.D S.bm) TD (0, 0))
  m : u.heap[S.bm]? = some (mapO keS S.es S.clk)
  f : FilesOk S.rr u S.es S.clk S.D.files
  ne : S.bd ≠ S.bm
  r : ∀ k, S.rr k → k < u.heap.size ∧ k ≠ S.bd ∧ k ≠ S.bm
theorem EF.same {rr : Nat → Prop} {u v : World} (hs : ∀ k, rr k → v.heap[k]? = u.heap[k]?) {e : List UInt8 × Value × Nat} {f : Fe} (h : EF rr u e f) : EF rr v e f := by
  obtain ⟨h1, x, h2, h3⟩ := h
  exact ⟨h1, x, h2, h3.same hs⟩
theorem EF.mono {rr rr' : Nat → Prop} {u : World} (hr : ∀ k, rr k → rr' k) {e : List UInt8 × Value × Nat} {f : Fe} (h : EF rr u e f) : EF rr' u e f := by
  obtain ⟨h1, x, h2, h3⟩ := h
  exact ⟨h1, x, h2, h3.mono hr⟩
theorem FilesOk.same {rr : Nat → Prop} {u v : World} (hs : ∀ k, rr k → v.heap[k]? = u.heap[k]?) {es : Es (List UInt8)} {clk : Nat} {fs : List Fe} (h : FilesOk rr u es clk fs) : FilesOk rr v es clk fs :=
  ⟨h.all.imp (fun _ _ h => h.same hs), h.nb, h.lt, h.nn, h.sz⟩
def dkR (S : DkS) : Res where
  w k := k = S.bd ∨ k = S.bm
  r k := S.rr k
  p u := DkP S u
  st u v h := fun hp => ⟨(h _ (.inl (.inl rfl))).trans hp.d, (h _ (.inl (.inr rfl))).trans hp.m, hp.f.same fun k hk => h k (.inr hk), hp.ne, fun k hk => ⟨by
    have h1 := (hp.r k hk).1
    have h2 := h k (.inr hk)
    rw [Array.getElem?_eq_getElem h1] at h2
    exact (Array.getElem?_eq_some_iff.1 h2).1, (hp.r k hk).2⟩⟩
  bd u := fun hp k hk => by
    rcases hk with (rfl | rfl) | hk
    · exact (Array.getElem?_eq_some_iff.1 hp.d).1
    · exact (Array.getElem?_eq_some_iff.1 hp.m).1
    · exact (hp.r k hk).1
abbrev mr (b : Nat) (fs : Es (List UInt8)) (clk : Nat) : Ent := ⟨b, some (mapO keS fs clk), true, none⟩
/-- it is only read -/
theorem dk_ro {S : DkS} {w : World} (h : DkP S w) : St [] w w [cr S.bd (dkC S.D S.bm) TD, mr S.bm S.es S.clk] :=
  St.from w [] _ (fun e he => by
    simp only [List.mem_cons, List.not_mem_nil, or_false] at he
    rcases he with rfl | rfl
    · exact ⟨by simpa using h.d, fun k hk => by simp at hk⟩
    · exact ⟨by simpa using h.m, fun k hk => by simp at hk⟩) (by
      refine .cons (fun y hy => ?_) (by simp)
      obtain rfl : y = mr S.bm S.es S.clk := by simpa using hy
      exact fun k => ⟨fun h => by simp at h, fun h => by simp at h⟩)
/-- it turns -/
theorem dk_rw {S : DkS} {w : World} (h : DkP S w) : St [bl S.bd, bl S.bm] w w [cl S.bd (dkC S.D S.bm) TD, me S.bm keS S.es S.clk] :=
  St.from w _ _ (fun e he => by
    simp only [List.mem_cons, List.not_mem_nil, or_false] at he
    rcases he with rfl | rfl
    · exact ⟨by simpa using h.d, fun k hk => by simp at hk; simp [bl, hk]⟩
    · exact ⟨by simpa using h.m, fun k hk => by simp at hk; simp [bl, hk]⟩) (by
      refine .cons (fun y hy => ?_) (by simp)
      obtain rfl : y = me S.bm keS S.es S.clk := by simpa using hy
      have := h.ne
      exact fun k => ⟨fun h1 h2 => by simp at h1 h2; omega, fun h1 h2 => by simp at h1 h2; omega⟩)
set_option maxRecDepth 100000 in
theorem down_any (S : DkS) (w : World) (h : DkP S w) : Calls Tryz.prog 49 ([ptr S.bd] : List Value).toArray w fun e w' => e = .returned (.bool S.D.gone) ∧ Below w.heap.size w w' := by
  refine enterV tab_ok Tryz.func49 rfl Tryz.ntmps49 rfl (dk_ro h) ?_
  iterate 5 refine ct rfl ?_
  refine ld1 0 rfl rfl ?_
  refine cf rfl ?_
  exact rt rfl
set_option maxRecDepth 100000 in
theorem steps_any (S : DkS) (w : World) (h : DkP S w) : Calls Tryz.prog 20 ([ptr S.bd] : List Value).toArray w fun e w' => e = .returned (.int .i64 S.D.steps) ∧ Below w.heap.size w w' := by
  refine enterV tab_ok Tryz.func20 rfl Tryz.ntmps20 rfl (dk_ro h) ?_
  refine cf rfl ?_
  refine ld1 0 rfl rfl ?_
  exact rt rfl
/-- an empty disk, by its numbers -/
def dk0 (quota : Nat) (bd bm : Nat) : DkS := ⟨⟨0, 0, false, false, quota, []⟩, bd, bm, fun _ => False, [], 0⟩
set_option maxRecDepth 100000 in
theorem new_bad (q : Int) (hq : q < 0 ∨ 16777216 < q) (hb : -9223372036854775808 ≤ q ∧ q ≤ 9223372036854775807) (w : World) : Calls Tryz.prog 18 ([.int .i64 q] : List Value).toArray w fun e w' => e = .returned (.tuple #[.pointer none, ErrN 2]) ∧ Below w.heap.size w w' := by
  refine enterV tab_ok Tryz.func18 rfl Tryz.ntmps18 rfl (St.start w) ?_
  by_cases h0 : q < 0
  · have e1 := decide_eq_true h0
    have e2 : (decide (q < 0) == false) = false := by rw [e1]; rfl
    refine cf e2 ?_
    refine cf e2 ?_
    refine ct e1 ?_
    refine ct rfl ?_
    exact rt rfl
  · have e1 := decide_eq_false h0
    have e2 : (decide (q < 0) == false) = true := by rw [e1]; rfl
    refine ct e2 ?_
    refine ct e2 ?_
    refine cf e1 ?_
    refine ct (decide_eq_true (by omega)) ?_
    exact rt rfl
set_option maxRecDepth 100000 in
theorem new_any (q : Nat) (hq : q ≤ 16777216) (w : World) : Calls Tryz.prog 18 ([.int .i64 q] : List Value).toArray w fun e w' => ∃ x : Nat × Nat, True ∧ e = .returned (.tuple #[ptr x.1, .nilIface]) ∧ Below w.heap.size w w' ∧ (dkR (dk0 q x.1 x.2)).p w' ∧ (∀ k, (dkR (dk0 q x.1 x.2)).w k → w.heap.size ≤ k) ∧ ∀ k, (dkR (dk0 q x.1 x.2)).r k → False := by
  refine (enter tab_ok Tryz.func18 rfl Tryz.ntmps18 rfl (St.start w) (R := fun v w' => ∃ x : Nat × Nat, v = .tuple #[ptr x.1, .nilIface] ∧ Below w.heap.size w w' ∧ (dkR (dk0 q x.1 x.2)).p w' ∧ (∀ k, (dkR (dk0 q x.1 x.2)).w k → w.heap.size ≤ k)) ?_).mono (fun e w' ⟨v, he, x, h1, h2, h3, h4⟩ => ⟨x, trivial, by rw [he, h1], h2, h3, h4, fun k hk => hk⟩)
  have e1 := decide_eq_false (show ¬ (q : Int) < 0 by omega)
  have e2 : (decide ((q : Int) < 0) == false) = true := by rw [e1]; rfl
  refine ct e2 ?_
  refine ct e2 ?_
  refine cf e1 ?_
  refine cf (decide_eq_false (by omega)) ?_
  refine mkm (keS : List UInt8 → Value) (fun bm => ?_)
  refine bu (c := #[.int .i64 0, .int .i64 0, .bool false, .bool false, .int .i64 q, .map (some bm)]) (by kernel_rfl) ?_
  intro bd
  refine ⟨fun w1 hs => ⟨(bd, bm), rfl, hs.below, ?_, ?_⟩⟩
  · refine ⟨hs.nth (k := 1) rfl, hs.nth (k := 0) rfl, ⟨.nil, by simp [dk0], by simp [dk0], by simp [dk0], by simp [dk0]⟩, ?_, fun k hk => hk.elim⟩
    have := pw_ne hs.apart (i := 0) (j := 1) rfl rfl (by decide)
    have h2 := (this bd).2 (by simp)
    simp at h2
    exact fun e => h2 e.symm
  · rintro k (rfl | rfl)
    · rcases hs.own _ (List.mem_of_getElem? (i := 1) rfl) rfl rfl with h | h
      · exact h
      · simp at h
    · rcases hs.own _ (List.mem_of_getElem? (i := 0) rfl) rfl rfl with h | h
      · exact h
      · simp at h
set_option maxRecDepth 100000 in
theorem arm_bad (S : DkS) (n : Int) (hn : n < 0) (w : World) (h : DkP S w) : Calls Tryz.prog 33 ([ptr S.bd, .int .i64 n] : List Value).toArray w fun e w' => e = .returned (ErrN 2) ∧ Below w.heap.size w w' := by
  refine enterV tab_ok Tryz.func33 rfl Tryz.ntmps33 rfl (dk_ro h) ?_
  refine cf rfl ?_
  refine ct (decide_eq_true hn) ?_
  exact rt rfl
def DkS.withD (S : DkS) (D : Dk) : DkS := { S with D := D }
/-- only its numbers have turned -/
theorem turn_nums {S : DkS} {w w' : World} {L : List Ent} (h : DkP S w) (hs : St [bl S.bd, bl S.bm] w w' L) (D' : Dk) (hf : D'.files = S.D.files) (hd : w'.heap[S.bd]? = some (.cells (dkC D' S.bm) TD (0, 0))) (hm : w'.heap[S.bm]? = some (mapO keS S.es S.clk)) : Turns w w' (dkR S) (dkR (S.withD D')) := by
  have hr : ∀ k, S.rr k → w'.heap[k]? = w.heap[k]? := fun k hk => hs.old k (h.r k hk).1 (by simp [bl]; exact (h.r k hk).2)
  refine Turns.of_st hs (fun k hk => ?_) ⟨hd, hm, ?_, h.ne, fun k hk => ⟨Nat.lt_of_lt_of_le (h.r k hk).1 hs.size, (h.r k hk).2⟩⟩ (fun k hk => .inl hk) (fun k hk => .inl hk)
  · simpa [bl, dkR] using hk
  · show FilesOk S.rr w' S.es S.clk D'.files
    rw [hf]; exact h.f.same hr
set_option maxRecDepth 100000 in
theorem arm_any (S : DkS) (n : Nat) (w : World) (h : DkP S w) : Calls Tryz.prog 33 ([ptr S.bd, .int .i64 n] : List Value).toArray w fun e w' => e = .returned .nilIface ∧ Turns w w' (dkR S) (dkR (S.withD { S.D with armed := true, left := n })) := by
  refine (enter tab_ok Tryz.func33 rfl Tryz.ntmps33 rfl (dk_rw h) (R := fun v w' => v = .nilIface ∧ Turns w w' (dkR S) (dkR (S.withD { S.D with armed := true, left := n }))) ?_).mono (fun e w' ⟨v, he, h1, h2⟩ => ⟨by rw [he, h1], h2⟩)
  refine cf rfl ?_
  refine cf (decide_eq_false (by omega)) ?_
  refine s1 0 rfl (show 2 < 6 by decide) ?_
  refine s1 0 rfl (show 1 < 6 by decide) ?_
  exact ⟨fun w1 hs => ⟨rfl, turn_nums h hs _ rfl (hs.nth (k := 0) rfl) (hs.nth (k := 1) rfl)⟩⟩
end Go.Proofs.YteamnhpplclmfaaGreatDoor
end
section
namespace Go.Proofs.YteamnhpplclmfaaGreatDoor
open Go.RowKit Go.Sx
set_option linter.unusedVariables false

def nameN (n : Nat) : Bool := (97 ≤ n && n ≤ 122) || (48 ≤ n && n ≤ 57) || n == 46 || n == 45
def nameB (c : UInt8) : Bool := nameN c.toNat
def namedL (l : List UInt8) : Bool := 1 ≤ l.length && l.length ≤ 64 && l.all nameB
theorem namedL_len {l : List UInt8} (h : namedL l = true) : l.length ≤ 64 := by
  simp only [namedL, Bool.and_eq_true, decide_eq_true_eq] at h
  exact h.1.2
/-- a text's bytes -/
theorem cvSB {C : Cx} {L : List Ent} {t1 t2 e : TypeId} {l : List UInt8} {next : Value → List Ent → Prop} (h1 : C.P.underlying t1 = some .string) (h2 : C.P.underlying t2 = some (.slice e)) (h3 : C.P.underlying e = some (.int .u8))
    (go : ∀ b c cap, (∀ i (h : i < l.length), c[i]? = some (.int .u8 (l[i].toNat : Nat))) → next (.slice (some ⟨b, 0, none⟩) l.length cap) (L ++ [⟨b, some (.cells c e (c.size, c.size + 1)), false, none⟩])) : SemP C (convert t1 t2 (VS l)) L next := by
  refine ⟨fun w hs => ⟨_, _, _, run_bytes_of_string w t1 t2 e ⟨l.toArray⟩ h1 h2 h3, hs.drew.alloc _, ?_⟩⟩
  have := go w.heap.size (bytesRow ⟨l.toArray⟩ (grownCap w l.length 0 e)) (grownCap w l.length 0 e) (fun i h => by
    have := bytesRow_at ⟨l.toArray⟩ (grownCap w l.length 0 e) i (by simpa using h)
    simpa using this)
  have e1 : (ByteArray.mk l.toArray).size = l.length := size_mk l
  rw [e1]; exact this
set_option maxRecDepth 100000 in
set_option maxHeartbeats 1000000 in
theorem named_any (l : List UInt8) (hl : l.length ≤ 1000000) (w : World) : Calls Tryz.prog 86 ([VS l] : List Value).toArray w fun e w' => e = .returned (.bool (namedL l)) ∧ Below w.heap.size w w' := by
  refine enterV tab_ok Tryz.func86 rfl Tryz.ntmps86 rfl (St.start w) ?_
  refine cvSB undST und22 undU8 (fun b c cap hc => ?_)
  refine lp tab_ok (fun i : Nat => i ≤ l.length ∧ (l.take i).all nameB = true) (fun i => ⟨[(0, VS l), (6, .slice (some ⟨b, 0, none⟩) l.length cap), (7, .int .i64 l.length), (8, .int .i64 i)], [⟨b, some (.cells c 5 (c.size, c.size + 1)), false, none⟩], []⟩) (fun i => l.length - i) 0 ⟨Nat.zero_le _, rfl⟩
    ⟨⟨rfl, rfl, rfl, rfl, trivial⟩, .cons .nil, rfl⟩ ?_
  rintro i ⟨hi, hall⟩
  refine cd (fun h => ?_) (fun h => ?_)
  · have hlt : i < l.length := by omega
    refine ⟨by omega, by omega, ?_⟩
    refine ld1 0 rfl (v := .int .u8 (l[i].toNat : Nat)) (by rw [nad_eq, nmu_eq, Int.toNat_natCast, Nat.mul_one, Nat.zero_add]; exact hc i hlt) ?_
    have htk : l.take (i + 1) = l.take i ++ [l[i]] := List.take_succ_eq_append_getElem hlt
    have hok : nameN l[i].toNat = true → (l.take (i + 1)).all nameB = true := fun h => by rw [htk, List.all_append, hall]; simpa [nameB] using h
    have hno : nameN l[i].toNat = false → namedL l = false := fun h => by
      have : l.all nameB = false := List.all_eq_false.2 ⟨l[i], List.getElem_mem hlt, by simp [nameB, h]⟩
      unfold namedL; rw [this, Bool.and_false]
    generalize l[i].toNat = n at *
    by_cases h0 : 97 ≤ n
    · have e1 : decide ((n : Int) ≥ 97) = true := decide_eq_true (by omega)
      have e2 : (decide ((n : Int) ≥ 97) == true) = true := by rw [e1]; rfl
      refine ct e2 ?_
      refine ct e2 ?_
      refine ct e1 ?_
      by_cases g0 : n ≤ 122
      · have g' : decide ((n : Int) ≤ 122) = true := decide_eq_true (by omega)
        refine ct g' ?_
        refine ct g' ?_
        refine .as ((i + 1 : Nat) : Int) (by simp) (by simp only [mn]; omega) (by simp only [mx]; omega) ?_
        exact ⟨i + 1, ⟨by omega, hok (by unfold nameN; simp; omega)⟩, by omega, ⟨⟨rfl, rfl, rfl, rfl, trivial⟩, .cons .nil, rfl⟩⟩
      · refine cf (decide_eq_false (by omega)) ?_
        by_cases h1 : 48 ≤ n
        · have e1 : decide ((n : Int) ≥ 48) = true := decide_eq_true (by omega)
          have e2 : (decide ((n : Int) ≥ 48) == true) = true := by rw [e1]; rfl
          refine ct e2 ?_
          refine ct e2 ?_
          refine ct e1 ?_
          by_cases g1 : n ≤ 57
          · have g' : decide ((n : Int) ≤ 57) = true := decide_eq_true (by omega)
            refine ct g' ?_
            refine ct g' ?_
            refine .as ((i + 1 : Nat) : Int) (by simp) (by simp only [mn]; omega) (by simp only [mx]; omega) ?_
            exact ⟨i + 1, ⟨by omega, hok (by unfold nameN; simp; omega)⟩, by omega, ⟨⟨rfl, rfl, rfl, rfl, trivial⟩, .cons .nil, rfl⟩⟩
          · refine cf (decide_eq_false (by omega)) ?_
            by_cases h2 : n = 46
            · have g' : ((n : Int) == 46) = true := by rw [h2]; rfl
              refine ct g' ?_
              refine ct g' ?_
              refine .as ((i + 1 : Nat) : Int) (by simp) (by simp only [mn]; omega) (by simp only [mx]; omega) ?_
              exact ⟨i + 1, ⟨by omega, hok (by unfold nameN; simp; omega)⟩, by omega, ⟨⟨rfl, rfl, rfl, rfl, trivial⟩, .cons .nil, rfl⟩⟩
            · refine cf (beq_eq_false_iff_ne.2 (by omega)) ?_
              by_cases h3 : n = 45
              · have g' : ((n : Int) == 45) = true := by rw [h3]; rfl
                refine ct g' ?_
                refine .as ((i + 1 : Nat) : Int) (by simp) (by simp only [mn]; omega) (by simp only [mx]; omega) ?_
                exact ⟨i + 1, ⟨by omega, hok (by unfold nameN; simp; omega)⟩, by omega, ⟨⟨rfl, rfl, rfl, rfl, trivial⟩, .cons .nil, rfl⟩⟩
              · refine cf (beq_eq_false_iff_ne.2 (by omega)) ?_
                exact rt (congrArg Value.bool (hno (by unfold nameN; simp; omega)).symm)
        · have e1 : decide ((n : Int) ≥ 48) = false := decide_eq_false (by omega)
          have e2 : (decide ((n : Int) ≥ 48) == true) = false := by rw [e1]; rfl
          refine cf e2 ?_
          refine cf e2 ?_
          refine cf e1 ?_
          refine cf rfl ?_
          by_cases h2 : n = 46
          · have g' : ((n : Int) == 46) = true := by rw [h2]; rfl
            refine ct g' ?_
            refine ct g' ?_
            refine .as ((i + 1 : Nat) : Int) (by simp) (by simp only [mn]; omega) (by simp only [mx]; omega) ?_
            exact ⟨i + 1, ⟨by omega, hok (by unfold nameN; simp; omega)⟩, by omega, ⟨⟨rfl, rfl, rfl, rfl, trivial⟩, .cons .nil, rfl⟩⟩
          · refine cf (beq_eq_false_iff_ne.2 (by omega)) ?_
            by_cases h3 : n = 45
            · have g' : ((n : Int) == 45) = true := by rw [h3]; rfl
              refine ct g' ?_
              refine .as ((i + 1 : Nat) : Int) (by simp) (by simp only [mn]; omega) (by simp only [mx]; omega) ?_
              exact ⟨i + 1, ⟨by omega, hok (by unfold nameN; simp; omega)⟩, by omega, ⟨⟨rfl, rfl, rfl, rfl, trivial⟩, .cons .nil, rfl⟩⟩
            · refine cf (beq_eq_false_iff_ne.2 (by omega)) ?_
              exact rt (congrArg Value.bool (hno (by unfold nameN; simp; omega)).symm)
    · have e1 : decide ((n : Int) ≥ 97) = false := decide_eq_false (by omega)
      have e2 : (decide ((n : Int) ≥ 97) == true) = false := by rw [e1]; rfl
      refine cf e2 ?_
      refine cf e2 ?_
      refine cf e1 ?_
      refine cf rfl ?_
      by_cases h1 : 48 ≤ n
      · have e1 : decide ((n : Int) ≥ 48) = true := decide_eq_true (by omega)
        have e2 : (decide ((n : Int) ≥ 48) == true) = true := by rw [e1]; rfl
        refine ct e2 ?_
        refine ct e2 ?_
        refine ct e1 ?_
        by_cases g1 : n ≤ 57
        · have g' : decide ((n : Int) ≤ 57) = true := decide_eq_true (by omega)
          refine ct g' ?_
          refine ct g' ?_
          refine .as ((i + 1 : Nat) : Int) (by simp) (by simp only [mn]; omega) (by simp only [mx]; omega) ?_
          exact ⟨i + 1, ⟨by omega, hok (by unfold nameN; simp; omega)⟩, by omega, ⟨⟨rfl, rfl, rfl, rfl, trivial⟩, .cons .nil, rfl⟩⟩
        · refine cf (decide_eq_false (by omega)) ?_
          by_cases h2 : n = 46
          · have g' : ((n : Int) == 46) = true := by rw [h2]; rfl
            refine ct g' ?_
            refine ct g' ?_
            refine .as ((i + 1 : Nat) : Int) (by simp) (by simp only [mn]; omega) (by simp only [mx]; omega) ?_
            exact ⟨i + 1, ⟨by omega, hok (by unfold nameN; simp; omega)⟩, by omega, ⟨⟨rfl, rfl, rfl, rfl, trivial⟩, .cons .nil, rfl⟩⟩
          · refine cf (beq_eq_false_iff_ne.2 (by omega)) ?_
            by_cases h3 : n = 45
            · have g' : ((n : Int) == 45) = true := by rw [h3]; rfl
              refine ct g' ?_
              refine .as ((i + 1 : Nat) : Int) (by simp) (by simp only [mn]; omega) (by simp only [mx]; omega) ?_
              exact ⟨i + 1, ⟨by omega, hok (by unfold nameN; simp; omega)⟩, by omega, ⟨⟨rfl, rfl, rfl, rfl, trivial⟩, .cons .nil, rfl⟩⟩
            · refine cf (beq_eq_false_iff_ne.2 (by omega)) ?_
              exact rt (congrArg Value.bool (hno (by unfold nameN; simp; omega)).symm)
      · have e1 : decide ((n : Int) ≥ 48) = false := decide_eq_false (by omega)
        have e2 : (decide ((n : Int) ≥ 48) == true) = false := by rw [e1]; rfl
        refine cf e2 ?_
        refine cf e2 ?_
        refine cf e1 ?_
        refine cf rfl ?_
        by_cases h2 : n = 46
        · have g' : ((n : Int) == 46) = true := by rw [h2]; rfl
          refine ct g' ?_
          refine ct g' ?_
          refine .as ((i + 1 : Nat) : Int) (by simp) (by simp only [mn]; omega) (by simp only [mx]; omega) ?_
          exact ⟨i + 1, ⟨by omega, hok (by unfold nameN; simp; omega)⟩, by omega, ⟨⟨rfl, rfl, rfl, rfl, trivial⟩, .cons .nil, rfl⟩⟩
        · refine cf (beq_eq_false_iff_ne.2 (by omega)) ?_
          by_cases h3 : n = 45
          · have g' : ((n : Int) == 45) = true := by rw [h3]; rfl
            refine ct g' ?_
            refine .as ((i + 1 : Nat) : Int) (by simp) (by simp only [mn]; omega) (by simp only [mx]; omega) ?_
            exact ⟨i + 1, ⟨by omega, hok (by unfold nameN; simp; omega)⟩, by omega, ⟨⟨rfl, rfl, rfl, rfl, trivial⟩, .cons .nil, rfl⟩⟩
          · refine cf (beq_eq_false_iff_ne.2 (by omega)) ?_
            exact rt (congrArg Value.bool (hno (by unfold nameN; simp; omega)).symm)
  · obtain rfl : i = l.length := by omega
    rw [List.take_of_length_le (Nat.le_refl _)] at hall
    have hb := const_beq ⟨l.toArray⟩ ⟨#[]⟩
    have e0 : namedL l = (decide (1 ≤ l.length) && decide (l.length ≤ 64)) := by unfold namedL; rw [hall, Bool.and_true]
    rw [e0]
    by_cases h0 : l = []
    · subst h0
      have hb2 : (!((ByteArray.mk #[]).toList == (ByteArray.mk #[]).toList)) = false := by simp
      have hb3 : ((!((ByteArray.mk #[]).toList == (ByteArray.mk #[]).toList)) == true) = false := by rw [hb2]; rfl
      refine cf hb3 ?_
      refine cf hb3 ?_
      refine cf hb3 ?_
      refine cf hb2 ?_
      exact rt rfl
    · have hb2 : (!((ByteArray.mk l.toArray).toList == (ByteArray.mk #[]).toList)) = true := by rw [hb, decide_eq_false (by simpa using h0)]; rfl
      have hb3 : ((!((ByteArray.mk l.toArray).toList == (ByteArray.mk #[]).toList)) == true) = true := by rw [hb2]; rfl
      refine ct hb3 ?_
      refine ct hb3 ?_
      refine ct hb3 ?_
      refine ct hb2 ?_
      refine rt (congrArg Value.bool ?_)
      have h1 : 1 ≤ l.length := by cases l with | nil => exact absurd rfl h0 | cons a b => simp
      rw [size_mk, decide_eq_true h1, Bool.true_and, Bool.eq_iff_iff, decide_eq_true_eq, decide_eq_true_eq]
      omega
/-- the disk with a step done; false: the power is off -/
def stepD (D : Dk) : Bool × Dk := if D.gone || (D.armed && D.left == 0) then (false, { D with gone := true }) else (true, { D with left := if D.armed then D.left - 1 else D.left, steps := D.steps + 1 })
theorem CallP.eqL {C : Cx} {g : FuncId} {vs : List Value} {L L' : List Ent} {next : Value → List Ent → Prop} (h : L = L') (hc : CallP C g vs L' next) : CallP C g vs L next := h ▸ hc
theorem cbt {b : Bool} {p q : Prop} (h : b = true) (go : p) : cond b p q := by rw [h]; exact go
theorem CallP.imp {C : Cx} {g : FuncId} {vs : List Value} {L : List Ent} {k k' : Value → List Ent → Prop} (hc : CallP C g vs L k) (h : ∀ v L', k v L' → k' v L') : CallP C g vs L k' :=
  ⟨fun w hs => (hc.go w hs).mono fun e w' ⟨v, L', he, h1, h2⟩ => ⟨v, L', he, h1, h v L' h2⟩⟩
section
variable {N : Nat} {M : Bks} {B : World} {F : Option Nat} {L : List Ent} {next : Value → List Ent → Prop}
set_option maxRecDepth 100000 in
/-- a step: it is refused, or what is to be done is called -/
theorem step_in (k : Nat) {D : Dk} {bd bm g : Nat} {cs : Array Value} (hk : L[k]? = some (cl bd (dkC D bm) TD)) (hcl : callable tab g = true) (hst : D.steps ≤ 1000000) (hl : D.left ≤ 9223372036854775807)
    (g0 : (stepD D).1 = false → next (ErrN 4) (L.set k (cl bd (dkC (stepD D).2 bm) TD)))
    (g1 : (stepD D).1 = true → CallP ⟨Tryz.prog, tab, 44, M, B, none⟩ g cs.toList (L.set k (cl bd (dkC (stepD D).2 bm) TD)) (fun v L' => next .nilIface L')) :
    CallP ⟨Tryz.prog, tab, N, M, B, F⟩ 87 [ptr bd, .func (.func g) #[] cs] L next := by
  refine inl (C := ⟨Tryz.prog, tab, N, M, B, F⟩) tab_ok Tryz.func87 rfl Tryz.ntmps87 rfl ?_
  obtain ⟨st, lf, ar, gn, qt, fs⟩ := D
  simp only at hst hl
  have hkl : k < L.length := (List.getElem?_eq_some_iff.1 hk).1
  have gone : ∀ ar, gn = true → stepD ⟨st, lf, ar, gn, qt, fs⟩ = (false, ⟨st, lf, ar, gn, qt, fs⟩) := by rintro ar rfl; rfl
  refine ld1 k hk (v := .bool ar) rfl ?_
  cases ar with
  | true =>
    iterate 4 refine ct rfl ?_
    refine ld1 k hk (v := .int .i64 lf) rfl ?_
    refine ct rfl ?_
    refine ct rfl ?_
    refine cq (fun h => ?_) (fun h => ?_)
    · have h0 : lf = 0 := by omega
      subst h0
      have hst2 : stepD ⟨st, 0, true, gn, qt, fs⟩ = (false, ⟨st, 0, true, true, qt, fs⟩) := by simp [stepD]
      refine s1 k hk (show 3 < 6 by decide) ?_
      have hk2 : (L.set k (cl bd ((dkC ⟨st, 0, true, gn, qt, fs⟩ bm).setIfInBounds 3 (.bool true)) TD))[k]? = some (cl bd (dkC ⟨st, 0, true, true, qt, fs⟩ bm) TD) := by simp [hkl, dkC]
      refine ld1 k hk2 (v := .bool true) rfl ?_
      refine ct rfl ?_
      refine bk ?_
      have := g0 (by rw [hst2])
      rw [hst2] at this
      exact this
    · cases gn with
      | true =>
        refine ld1 k hk (v := .bool true) rfl ?_
        refine ct rfl ?_
        refine bk ?_
        have := g0 (by rw [gone true rfl])
        rw [gone true rfl] at this
        rwa [show L.set k (cl bd (dkC ⟨st, lf, true, true, qt, fs⟩ bm) TD) = L from set_same hk] at this
      | false =>
        have hst2 : stepD ⟨st, lf, true, false, qt, fs⟩ = (true, ⟨st + 1, lf - 1, true, false, qt, fs⟩) := by
          have : lf ≠ 0 := by omega
          simp [stepD, this]
        refine ld1 k hk (v := .bool false) rfl ?_
        refine cf rfl ?_
        refine ld1 k hk (v := .bool true) rfl ?_
        refine ct rfl ?_
        refine ld1 k hk (v := .int .i64 lf) rfl ?_
        refine .as ((lf - 1 : Nat) : Int) (by omega) (by simp only [mn]; omega) (by simp only [mx]; omega) ?_
        refine s1 k hk (show 1 < 6 by decide) ?_
        have hk2 : (L.set k (cl bd ((dkC ⟨st, lf, true, false, qt, fs⟩ bm).setIfInBounds 1 (.int .i64 ((lf - 1 : Nat) : Int))) TD))[k]? = some (cl bd (dkC ⟨st, lf - 1, true, false, qt, fs⟩ bm) TD) := by simp [hkl, dkC]
        refine ld1 k hk2 (v := .int .i64 st) rfl ?_
        refine .as ((st + 1 : Nat) : Int) (by simp) (by simp only [mn]; omega) (by simp only [mx]; omega) ?_
        refine s1 k hk2 (show 0 < 6 by decide) ?_
        refine cbt hcl ?_
        refine CallP.eqL (L' := L.set k (cl bd (dkC (stepD ⟨st, lf, true, false, qt, fs⟩).2 bm) TD)) ?_ ?_
        · rw [hst2]; simp [dkC, nad]
        refine CallP.imp (C := ⟨Tryz.prog, tab, 44, M, B, none⟩) (k := fun v L' => next .nilIface L') ?_ (fun v L' h => bk h)
        have := g1 (by rw [hst2])
        simpa using this
  | false =>
    iterate 5 refine cf rfl ?_
    refine cf rfl ?_
    refine cf rfl ?_
    cases gn with
    | true =>
      refine ld1 k hk (v := .bool true) rfl ?_
      refine ct rfl ?_
      refine bk ?_
      have := g0 (by rw [gone false rfl])
      rw [gone false rfl] at this
      rwa [show L.set k (cl bd (dkC ⟨st, lf, false, true, qt, fs⟩ bm) TD) = L from set_same hk] at this
    | false =>
      have hst2 : stepD ⟨st, lf, false, false, qt, fs⟩ = (true, ⟨st + 1, lf, false, false, qt, fs⟩) := by simp [stepD]
      refine ld1 k hk (v := .bool false) rfl ?_
      refine cf rfl ?_
      refine ld1 k hk (v := .bool false) rfl ?_
      refine cf rfl ?_
      have hk2 := hk
      refine ld1 k hk2 (v := .int .i64 st) rfl ?_
      refine .as ((st + 1 : Nat) : Int) (by simp) (by simp only [mn]; omega) (by simp only [mx]; omega) ?_
      refine s1 k hk2 (show 0 < 6 by decide) ?_
      refine cbt hcl ?_
      refine CallP.eqL (L' := L.set k (cl bd (dkC (stepD ⟨st, lf, false, false, qt, fs⟩).2 bm) TD)) ?_ ?_
      · rw [hst2]; simp [dkC, nad]
      refine CallP.imp (C := ⟨Tryz.prog, tab, 44, M, B, none⟩) (k := fun v L' => next .nilIface L') ?_ (fun v L' h => bk h)
      have := g1 (by rw [hst2])
      simpa using this
end
end Go.Proofs.YteamnhpplclmfaaGreatDoor
end
section
namespace Go.Proofs.YteamnhpplclmfaaGreatDoor
open Go.RowKit Go.Sx
set_option linter.unusedVariables false

def findF (n : List UInt8) : List Fe → Option Fe
  | [] => none
  | f :: l => if n = f.name then some f else findF n l
def setF (f : Fe) : List Fe → List Fe
  | [] => [f]
  | g :: l => if f.name = g.name then f :: l else g :: setF f l
def delF (n : List UInt8) : List Fe → List Fe
  | [] => []
  | g :: l => if n = g.name then l else g :: delF n l
theorem findF_mem {n : List UInt8} {fs : List Fe} {f : Fe} (h : findF n fs = some f) : f ∈ fs ∧ f.name = n := by
  induction fs with
  | nil => cases h
  | cons g l ih =>
    unfold findF at h
    split at h
    · rename_i hn
      obtain rfl := Option.some.inj h
      exact ⟨List.mem_cons_self, hn.symm⟩
    · exact ⟨List.mem_cons_of_mem _ (ih h).1, (ih h).2⟩
theorem findF_none {n : List UInt8} {fs : List Fe} : findF n fs = none ↔ n ∉ fs.map (·.name) := by
  induction fs with
  | nil => simp [findF]
  | cons g l ih =>
    unfold findF
    by_cases h : n = g.name
    · simp [h]
    · simp [h, ih]
theorem getF {rr : Nat → Prop} {u : World} {es : Es (List UInt8)} {fs : List Fe} (h : All2 (EF rr u) es fs) (n : List UInt8) :
    (findF n fs = none ∧ getS n es = none) ∨ ∃ f v, findF n fs = some f ∧ getS n es = some (.agg #[v, .int .i64 f.sure]) ∧ RdR rr u v (Lib.byteCells f.bs) := by
  induction h with
  | nil => exact .inl ⟨rfl, rfl⟩
  | @cons e f l m h1 _ ih =>
    obtain ⟨h2, v, h3, h4⟩ := h1
    unfold findF
    rw [getS_cons, h2]
    by_cases h : n = f.name
    · right
      rw [if_pos h, if_pos h, h3]
      exact ⟨f, v, rfl, rfl, h4⟩
    · rw [if_neg h, if_neg h]; exact ih
theorem all2_set {rr : Nat → Prop} {u : World} {es : Es (List UInt8)} {fs : List Fe} (h : All2 (EF rr u) es fs) (f : Fe) (v : Value) (clk : Nat) (hv : RdR rr u v (Lib.byteCells f.bs)) :
    All2 (EF rr u) (setS f.name (.agg #[v, .int .i64 f.sure]) clk es) (setF f fs) := by
  induction h with
  | nil => exact .cons ⟨rfl, v, rfl, hv⟩ .nil
  | @cons e g l m h1 h0 ih =>
    obtain ⟨h2, v', h3, h4⟩ := h1
    unfold setS setF
    rw [h2]
    by_cases h : f.name = g.name
    · rw [if_pos h, if_pos h]; exact .cons ⟨rfl, v, rfl, hv⟩ h0
    · rw [if_neg h, if_neg h]; exact .cons ⟨h2, v', h3, h4⟩ ih
theorem all2_del {rr : Nat → Prop} {u : World} {es : Es (List UInt8)} {fs : List Fe} (h : All2 (EF rr u) es fs) (n : List UInt8) : All2 (EF rr u) (delS n es) (delF n fs) := by
  induction h with
  | nil => exact .nil
  | @cons e g l m h1 h0 ih =>
    obtain ⟨h2, v', h3, h4⟩ := h1
    unfold delS delF
    rw [h2]
    by_cases h : n = g.name
    · rw [if_pos h, if_pos h]; exact h0
    · rw [if_neg h, if_neg h]; exact .cons ⟨h2, v', h3, h4⟩ ih
theorem setF_names (f : Fe) (fs : List Fe) : (setF f fs).map (·.name) = if f.name ∈ fs.map (·.name) then fs.map (·.name) else fs.map (·.name) ++ [f.name] := by
  induction fs with
  | nil => simp [setF]
  | cons g l ih =>
    unfold setF
    by_cases h : f.name = g.name
    · simp [h]
    · rw [if_neg h, List.map_cons, ih]
      simp only [List.map_cons, List.mem_cons, h, false_or]
      split <;> rfl
theorem setF_mem {f g : Fe} {fs : List Fe} (h : g ∈ setF f fs) : g = f ∨ g ∈ fs := by
  induction fs with
  | nil => exact .inl (by simpa [setF] using h)
  | cons k l ih =>
    unfold setF at h
    split at h
    · rcases List.mem_cons.1 h with h | h
      · exact .inl h
      · exact .inr (List.mem_cons_of_mem _ h)
    · rcases List.mem_cons.1 h with h | h
      · exact .inr (h ▸ List.mem_cons_self)
      · exact (ih h).imp id (List.mem_cons_of_mem _)
theorem delF_sub (n : List UInt8) (fs : List Fe) : (delF n fs).Sublist fs := by
  induction fs with
  | nil => exact List.Sublist.refl _
  | cons g l ih =>
    unfold delF
    split
    · exact List.sublist_cons_self _ _
    · exact ih.cons_cons _
theorem delS_sub {κ : Type} [DecidableEq κ] (n : κ) (fs : Es κ) : (delS n fs).Sublist fs := by
  induction fs with
  | nil => exact List.Sublist.refl _
  | cons g l ih =>
    unfold delS
    split
    · exact List.sublist_cons_self _ _
    · exact ih.cons_cons _
theorem setS_born {κ : Type} [DecidableEq κ] (k : κ) (v : Value) (clk : Nat) (es : Es κ) : (setS k v clk es).map (·.2.2) = if (getS k es).isSome then es.map (·.2.2) else es.map (·.2.2) ++ [clk] := by
  induction es with
  | nil => simp [setS, getS, findS]
  | cons e l ih =>
    unfold setS
    rw [getS_cons]
    by_cases h : k = e.1
    · simp [h]
    · simp only [if_neg h, List.map_cons, ih]
      split <;> rfl
theorem setS_lt {κ : Type} [DecidableEq κ] (k : κ) (v : Value) (clk : Nat) (es : Es κ) (h : ∀ e ∈ es, e.2.2 < clk) : ∀ e ∈ setS k v clk es, e.2.2 < clkS k es clk := by
  intro e he
  have h1 : e.2.2 ∈ (setS k v clk es).map (·.2.2) := List.mem_map_of_mem he
  rw [setS_born] at h1
  unfold clkS
  split at h1
  · rename_i hs
    rw [if_pos hs]
    obtain ⟨e', he', h2⟩ := List.mem_map.1 h1
    have := h e' he'
    omega
  · rename_i hs
    rw [if_neg hs]
    rcases List.mem_append.1 h1 with h1 | h1
    · obtain ⟨e', he', h2⟩ := List.mem_map.1 h1
      have := h e' he'
      omega
    · simp only [List.mem_singleton] at h1; omega
theorem FilesOk.set {rr : Nat → Prop} {u : World} {es : Es (List UInt8)} {clk : Nat} {fs : List Fe} (h : FilesOk rr u es clk fs) (f : Fe) (v : Value) (hv : RdR rr u v (Lib.byteCells f.bs)) (h1 : f.sure ≤ f.bs.length) (h2 : f.bs.length ≤ 16777216) (h3 : f.name.length ≤ 64) :
    FilesOk rr u (setS f.name (.agg #[v, .int .i64 f.sure]) clk es) (clkS f.name es clk) (setF f fs) := by
  refine ⟨all2_set h.all f v clk hv, ?_, setS_lt _ _ _ _ h.lt, ?_, fun g hg => ?_⟩
  · rw [setS_born]
    split
    · exact h.nb
    · refine List.nodup_append.2 ⟨h.nb, by simp, ?_⟩
      intro a ha b hb
      obtain ⟨e, he, rfl⟩ := List.mem_map.1 ha
      have := h.lt e he
      simp only [List.mem_singleton] at hb
      omega
  · rw [setF_names]
    split
    · exact h.nn
    · rename_i hn
      refine List.nodup_append.2 ⟨h.nn, by simp, ?_⟩
      intro a ha b hb
      simp only [List.mem_singleton] at hb
      rintro rfl
      exact hn (hb ▸ ha)
  · rcases setF_mem hg with rfl | hg
    · exact ⟨h1, h2, h3⟩
    · exact h.sz g hg
theorem FilesOk.del {rr : Nat → Prop} {u : World} {es : Es (List UInt8)} {clk : Nat} {fs : List Fe} (h : FilesOk rr u es clk fs) (n : List UInt8) : FilesOk rr u (delS n es) clk (delF n fs) :=
  ⟨all2_del h.all n, ((delS_sub n es).map _).nodup h.nb, fun e he => h.lt e ((delS_sub n es).subset he), ((delF_sub n fs).map _).nodup h.nn, fun f hf => h.sz f ((delF_sub n fs).subset hf)⟩
theorem FilesOk.mono {rr rr' : Nat → Prop} {u : World} {es : Es (List UInt8)} {clk : Nat} {fs : List Fe} (hr : ∀ k, rr k → rr' k) (h : FilesOk rr u es clk fs) : FilesOk rr' u es clk fs := ⟨h.all.imp fun _ _ h => h.mono hr, h.nb, h.lt, h.nn, h.sz⟩
/-- the zero file -/
def zF : Value := .agg #[.slice none 0 0, .int .i64 0]
theorem zeroF : (Tryz.prog.info? TF).bind (·.zero) = some zF := by kernel_rfl
/-- what a look-up finds -/
theorem get_shape {rr : Nat → Prop} {u : World} {es : Es (List UInt8)} {fs : List Fe} (h : All2 (EF rr u) es fs) (n : List UInt8) : ∃ a l c k, (getS n es).getD zF = .agg #[.slice a l c, .int .i64 k] := by
  rcases getF h n with ⟨_, h2⟩ | ⟨f, v, _, h2, h3⟩
  · exact ⟨none, 0, 0, 0, by rw [h2]; rfl⟩
  · obtain ⟨a, c, h4, _⟩ := h3
    exact ⟨a, _, c, _, by rw [h2, h4]; rfl⟩
set_option maxRecDepth 100000 in
theorem has_any (S : DkS) (n : List UInt8) (w : World) (h : DkP S w) : Calls Tryz.prog 103 ([ptr S.bd, VS n] : List Value).toArray w fun e w' => e = .returned (.tuple #[(getS n S.es).getD zF, if (getS n S.es).isSome then .nilIface else ErrN 5]) ∧ Below w.heap.size w w' := by
  obtain ⟨a, l, c, k, hv⟩ := get_shape h.f.all n
  refine enterV tab_ok Tryz.func103 rfl Tryz.ntmps103 rfl (dk_ro h) ?_
  intro b4
  refine cf rfl ?_
  refine ld1 0 rfl (v := .map (some S.bm)) rfl ?_
  refine lkp (ke := keS) (k := n) 1 rfl undM keyM zeroF ?_
  rw [if_pos rfl, hv]
  intro b6
  refine sN 3 rfl rfl rfl ?_ (by kernel_rfl)
  cases hs : (getS n S.es).isSome with
  | true =>
    refine cf rfl ?_
    refine ldN 3 rfl rfl ?_
    refine sN 2 rfl rfl rfl ?_ (by kernel_rfl)
    refine ldN 2 rfl rfl ?_
    exact rt rfl
  | false =>
    refine ct rfl ?_
    refine ldN 3 rfl rfl ?_
    refine sN 2 rfl rfl rfl ?_ (by kernel_rfl)
    refine ldN 2 rfl rfl ?_
    exact rt rfl
set_option maxRecDepth 100000 in
theorem sure_any (S : DkS) (n : List UInt8) (w : World) (h : DkP S w) : Calls Tryz.prog 84 ([ptr S.bd, VS n] : List Value).toArray w fun e w' => e = .returned (.int .i64 (match findF n S.D.files with | none => -1 | some f => (f.sure : Int))) ∧ Below w.heap.size w w' := by
  have hh := fun w' (hs : Below w.heap.size w w') => has_any S n w' ((dkR S).st w w' (fun k hk => hs.block k ((dkR S).bd w h k hk)) h)
  refine enterV tab_ok Tryz.func84 rfl Tryz.ntmps84 rfl (St.start w) ?_
  refine cvs (fun w' hs => hh w' hs.below) ?_
  rcases getF h.f.all n with ⟨h1, h2⟩ | ⟨f, v, h1, h2, h3⟩
  · rw [h1, h2]
    intro b
    refine sN 0 rfl rfl rfl ?_ (by kernel_rfl)
    refine ct rfl ?_
    exact rt rfl
  · obtain ⟨a, c, rfl, _⟩ := h3
    rw [h1, h2]
    intro b
    refine sN 0 rfl rfl rfl ?_ (by kernel_rfl)
    refine cf rfl ?_
    refine ld1 0 rfl (v := .int .i64 f.sure) rfl ?_
    exact rt rfl
end Go.Proofs.YteamnhpplclmfaaGreatDoor
end
section
namespace Go.Proofs.YteamnhpplclmfaaGreatDoor
open Go.RowKit Go.Sx
set_option linter.unusedVariables false

/-- a round: one of the entries that are left -/
def vNx {κ : Type} (es : Es κ) (i : Es κ) (args : List Value) (j : Es κ) : Prop := ∃ e rest, args = [e.2.1] ∧ j = i ++ [e] ∧ (i ++ [e] ++ rest).Perm es
theorem perm_more {κ : Type} {es i rest : Es κ} {e : κ × Value × Nat} (hp : (i ++ rest).Perm es) (he : e ∈ es) (hn : e.2.2 ∉ i.map (·.2.2)) : ∃ rest', (i ++ [e] ++ rest').Perm es := by
  have h1 : e ∈ i ++ rest := hp.mem_iff.2 he
  rcases List.mem_append.1 h1 with h | h
  · exact absurd (List.mem_map_of_mem h) hn
  · obtain ⟨l1, l2, rfl⟩ := List.append_of_mem h
    refine ⟨l1 ++ l2, List.Perm.trans ?_ hp⟩
    rw [List.append_assoc]
    exact (List.perm_middle (a := e) (l₁ := l1) (l₂ := l2)).symm.append_left i
theorem perm_done {κ : Type} {es i rest : Es κ} (hp : (i ++ rest).Perm es) (hn : (es.map (·.2.2)).Nodup) (hall : ∀ e ∈ es, e.2.2 ∈ i.map (·.2.2)) : i.Perm es := by
  cases rest with
  | nil => simpa using hp
  | cons e l =>
    exfalso
    have h1 : ((i ++ e :: l).map (·.2.2)).Nodup := (hp.map _).nodup_iff.2 hn
    rw [List.map_append, List.nodup_append] at h1
    exact h1.2.2 _ (hall e (hp.mem_iff.1 (by simp))) e.2.2 (by simp) rfl
/-- what the function that is ranged over reads -/
def boxH (b1 bm : Nat) (es : Es (List UInt8)) (clk : Nat) : Res where
  w _ := False
  r k := k = b1 ∨ k = bm
  p u := u.heap[b1]? = some (.cells #[.map (some bm)] TM (0, 0)) ∧ u.heap[bm]? = some (mapO keS es clk)
  st u v h := fun ⟨h1, h2⟩ => ⟨(h _ (.inr (.inl rfl))).trans h1, (h _ (.inr (.inr rfl))).trans h2⟩
  bd u := fun ⟨h1, h2⟩ k hk => by
    rcases hk with hk | rfl | rfl
    · exact hk.elim
    · exact (Array.getElem?_eq_some_iff.1 h1).1
    · exact (Array.getElem?_eq_some_iff.1 h2).1
set_option maxRecDepth 100000 in
theorem values_itr (b1 bm : Nat) (es : Es (List UInt8)) (clk : Nat) (hnb : (es.map (·.2.2)).Nodup) (hlt : ∀ e ∈ es, e.2.2 < clk) (hv : ∀ e ∈ es, ∃ a l c k, e.2.1 = .agg #[.slice a l c, .int .i64 k]) :
    Itr Tryz.prog 115 [ptr b1] ([] : Es (List UInt8)) (vNx es) (fun i => i.Perm es) (boxH b1 bm es clk) := by
  refine ⟨fun l α β R S W x0 hR hH hd hround => ?_⟩
  have hst : St [fun k => (R [] x0).w k] W W [rs (R [] x0), ⟨b1, some (.cells #[.map (some bm)] TM (0, 0)), true, none⟩, mr bm es clk] := by
    refine St.from W _ _ (fun e he => ?_) ?_
    · simp only [List.mem_cons, List.not_mem_nil, or_false] at he
      rcases he with rfl | rfl | rfl
      · exact ⟨by simpa using hR, fun k hk => by simpa using hk⟩
      · exact ⟨by simpa using hH.1, fun k hk => by simp at hk⟩
      · exact ⟨by simpa using hH.2, fun k hk => by simp at hk⟩
    · refine .cons (fun y hy => ?_) (.cons (fun y hy => ?_) (by simp))
      · simp only [List.mem_cons, List.not_mem_nil, or_false] at hy
        rcases hy with rfl | rfl
        · exact fun k => ⟨fun h1 h2 => by simp at h1 h2; subst h2; exact hd _ (.inr (.inl rfl)) h1, fun h1 => by simp at h1⟩
        · exact fun k => ⟨fun h1 h2 => by simp at h1 h2; subst h2; exact hd _ (.inr (.inr rfl)) h1, fun h1 => by simp at h1⟩
      · obtain rfl : y = mr bm es clk := by simpa using hy
        exact fun k => ⟨fun h1 => by simp at h1, fun h1 => by simp at h1⟩
  refine (enter tab_ok Tryz.func115 rfl Tryz.ntmps115 rfl hst (R := fun v w' => (∃ i y, i.Perm es ∧ Turns W w' (R [] x0) (R i y)) ∨ ∃ y, Turns W w' (R [] x0) (S y)) ?_).mono (fun e w' ⟨v, he, h⟩ => ⟨⟨v, he⟩, h⟩)
  have fin' : ∀ (r : Res) (L : List Ent) (w' : World), St [fun k => (R [] x0).w k] W w' L → L[0]? = some (rs r) → (∀ k, r.A k → (R [] x0).A k ∨ W.heap.size ≤ k) → Turns W w' (R [] x0) r := by
    intro r L w' hs h0 hA
    refine Turns.of_st hs (fun k hk => by simpa using hk) (hs.res h0) (fun k hk => ?_) hA
    rcases hs.ownW _ (List.mem_of_getElem? h0) k (by simpa using hk) with h | h
    · exact .inr h
    · exact .inl (by simpa using h)
  refine ld1 1 rfl (v := .map (some bm)) rfl ?_
  refine rng 2 rfl undM (fun it => ?_)
  refine lp tab_ok (fun x : Es (List UInt8) × α => (∃ rest, (x.1 ++ rest).Perm es) ∧ ∀ k, (R x.1 x.2).A k → (R [] x0).A k ∨ W.heap.size ≤ k)
    (fun x => ⟨[(0, .func (.yield l) #[] #[]), (6, ptr it)], [rs (R x.1 x.2), ⟨b1, some (.cells #[.map (some bm)] TM (0, 0)), true, none⟩, mr bm es clk, itE it bm clk (x.1.map (·.2.2))], []⟩) (fun x => es.length - x.1.length) ([], x0) ⟨⟨es, by simp⟩, fun k hk => .inl hk⟩
    ⟨⟨rfl, rfl, trivial⟩, .cons (.cons (.cons (.cons .nil))), rfl⟩ ?_
  rintro ⟨i, x⟩ ⟨⟨rest, hp⟩, hA⟩
  simp only at hp hA
  refine nxt 2 3 rfl rfl hlt (fun hall => ?_) (fun e he hn => ?_)
  · refine cf rfl ?_
    exact ⟨fun w1 hs => .inl ⟨i, x, perm_done hp hnb hall, fin' _ _ _ hs rfl hA⟩⟩
  · refine ct rfl ?_
    refine ent (e := e) 2 3 rfl rfl he hnb ?_
    obtain ⟨a, ln, c, k, hve⟩ := hv e he
    obtain ⟨rest', hp'⟩ := perm_more hp he hn
    rw [hve]
    intro b4
    refine sN 4 rfl rfl rfl ?_ (by kernel_rfl)
    refine ldN 4 rfl rfl ?_
    have hlen : (i ++ [e]).length ≤ es.length := by have := hp'.length_eq; simp at this ⊢; omega
    refine yd (α := α) (β := β) (R := R) (S := S) (nx := vNx es) (i := i) (j := i ++ [e]) (x := x) 0 rfl hround ⟨e, rest', by rw [hve]; rfl, rfl, hp'⟩ (fun y hA2 => ?_) (fun y hA2 => ?_)
    · refine cf rfl ?_
      refine ⟨(i ++ [e], y), ⟨⟨rest', hp'⟩, fun k hk => ?_⟩, by simp at hlen ⊢; omega, ⟨⟨rfl, rfl, trivial⟩, ?_, rfl⟩⟩
      · rcases hA2 k hk with h | h
        · exact hA k h
        · exact .inr h
      · simp only [List.map_append, List.map_cons, List.map_nil]
        exact .cons (.cons (.cons (.cons .nil)))
    · refine ct rfl ?_
      refine ⟨fun w1 hs => .inr ⟨y, fin' _ _ _ hs rfl fun k hk => ?_⟩⟩
      rcases hA2 k hk with h | h
      · exact hA k h
      · exact .inr h
def lenS : Value → Nat
  | .slice _ l _ => l
  | _ => 0
def lenV : Value → Nat
  | .agg c => lenS (c.getD 0 undef)
  | _ => 0
def sumE {κ : Type} (i : Es κ) : Nat := (i.map fun e => lenV e.2.1).sum
def usedD (fs : List Fe) : Nat := (fs.map fun f => f.bs.length).sum
theorem sum_used {rr : Nat → Prop} {u : World} {es : Es (List UInt8)} {fs : List Fe} (h : All2 (EF rr u) es fs) : sumE es = usedD fs := by
  unfold sumE usedD
  induction h with
  | nil => rfl
  | cons h1 _ ih =>
    obtain ⟨_, v, h2, a, c, rfl, _⟩ := h1
    simp only [List.map_cons, List.sum_cons, ih, h2]
    simp [lenV, lenS, Lib.byteCells_length]
theorem es_shape {rr : Nat → Prop} {u : World} {es : Es (List UInt8)} {fs : List Fe} (h : All2 (EF rr u) es fs) : ∀ e ∈ es, ∃ a l c k, e.2.1 = .agg #[.slice a l c, .int .i64 k] := by
  intro e he
  obtain ⟨f, _, h1, v, h2, a, c, rfl, _⟩ := h.memL he
  exact ⟨a, _, c, _, h2⟩
theorem sum_perm {κ : Type} {i j : Es κ} (h : i.Perm j) : sumE i = sumE j := (h.map _).sum_nat
theorem sum_app {κ : Type} (i j : Es κ) : sumE (i ++ j) = sumE i + sumE j := by simp [sumE]
set_option maxRecDepth 100000 in
theorem used_any (S : DkS) (w : World) (h : DkP S w) (hu : usedD S.D.files ≤ 1000000000000) : Calls Tryz.prog 21 ([ptr S.bd] : List Value).toArray w fun e w' => e = .returned (.int .i64 (usedD S.D.files)) ∧ Below w.heap.size w w' := by
  have hsum := sum_used h.f.all
  have hshape := es_shape h.f.all
  refine enterV tab_ok Tryz.func21 rfl Tryz.ntmps21 rfl (dk_ro h) ?_
  intro b3
  refine s1 2 rfl (show 0 < 1 by decide) ?_
  refine ct rfl ?_
  refine ld1 0 rfl (v := .map (some S.bm)) rfl ?_
  refine inl (C := ⟨Tryz.prog, tab, 19, [], w, none⟩) tab_ok Tryz.func68 rfl Tryz.ntmps68 rfl ?_
  intro b1
  refine bk ?_
  refine rf (C := ⟨Tryz.prog, tab, 19, [], w, none⟩) (α := Unit) (β := Empty) tab_ok rfl rfl rfl (values_itr b1 S.bm S.es S.clk h.f.nb h.f.lt hshape) 2 (fun i _ => cl b3 #[.int .i64 (sumE i)] 3) (fun y => y.elim) (fun y => y.elim) () rfl
    (fun w' hs => ⟨⟨hs.nth (k := 3) rfl, hs.nth (k := 1) rfl⟩, ?_⟩) ?_ ?_ ?_ (fun y => y.elim)
  · rintro b (hb | rfl | rfl) hw
    · exact hb.elim
    · exact (pw_ne hs.apart (i := 2) (j := 3) rfl rfl (by decide) _).1 hw (by simp)
    · exact (pw_ne hs.apart (i := 2) (j := 1) rfl rfl (by decide) _).1 hw (by simp)
  · rintro i args j ⟨e, rest, rfl, _⟩; rfl
  · rintro l i args j x w' ready busy ⟨e, rest, rfl, rfl, hp⟩
    have he : e ∈ S.es := hp.mem_iff.1 (by simp)
    obtain ⟨a, ln, c, k, hve⟩ := hshape e he
    have hs1 : sumE (i ++ [e]) = sumE i + ln := by rw [sum_app]; simp [sumE, hve, lenV, lenS]
    have hs2 : sumE (i ++ [e]) ≤ usedD S.D.files := by rw [← hsum, ← sum_perm hp, sum_app (i ++ [e]) rest]; omega
    rw [hve]
    intro b4
    refine sN 5 rfl rfl rfl ?_ (by kernel_rfl)
    refine ⟨rfl, ?_⟩
    refine ld1 2 rfl rfl ?_
    refine ld1 5 rfl (v := .slice a ln c) rfl ?_
    refine .as ((sumE (i ++ [e]) : Nat) : Int) (by rw [hs1]; simp) (by simp only [mn]; omega) (by simp only [mx]; omega) ?_
    refine s1 2 rfl (show 0 < 1 by decide) ?_
    exact ⟨(), .drop (.drop (.cons (.drop (.cons .nil)))), fun b hb => .inl (by simpa using hb)⟩
  · intro i y b0 hp
    refine ld1 2 rfl rfl ?_
    refine .mk 4 rfl ?_
    refine rt ?_
    show Value.int .i64 (sumE i) = _
    rw [sum_perm hp, hsum]
set_option maxRecDepth 100000 in
theorem free_any (S : DkS) (w : World) (h : DkP S w) (hu : usedD S.D.files ≤ 1000000000000) (hq : S.D.quota ≤ 16777216) : Calls Tryz.prog 47 ([ptr S.bd] : List Value).toArray w fun e w' => e = .returned (.int .i64 ((S.D.quota : Int) - usedD S.D.files)) ∧ Below w.heap.size w w' := by
  have hh := fun w' (hs : Below w.heap.size w w') => used_any S w' ((dkR S).st w w' (fun k hk => hs.block k ((dkR S).bd w h k hk)) h) hu
  refine enterV tab_ok Tryz.func47 rfl Tryz.ntmps47 rfl (dk_ro h) ?_
  refine cf rfl ?_
  refine dr [cr S.bd (dkC S.D S.bm) TD, mr S.bm S.es S.clk] 99 (.t 0 (.t 1 (.t 2 (.t 3 (.t 4 (.t 5 (.t 6 (.t 7 .nil)))))))) tab_ok mixed_ok (by kernel_rfl) (.cons (.cons .nil)) ?_
  refine ld1 0 rfl (v := .int .i64 S.D.quota) rfl ?_
  refine czs (fun w' hs => hh w' hs.below) ?_
  refine .same (by simp only [mn]; omega) (by simp only [mx]; omega) ?_
  exact rt rfl
end Go.Proofs.YteamnhpplclmfaaGreatDoor
end
section
namespace Go.Proofs.YteamnhpplclmfaaGreatDoor
open Go.RowKit Go.Sx
set_option linter.unusedVariables false

theorem undI : Tryz.prog.underlying 3 = some (.int .i64) := by kernel_rfl
theorem run_zeros (w : World) (n : Nat) (h0 : 0 < n) (h1 : n ≤ 140737488355328) : ∃ c, n ≤ c ∧ c ≤ maxLen ∧ (Builtin.append_ #[22, 3] 22 #[.slice none 0 0, .int .i64 n]).run Tryz.prog w = .ok (.slice (some ⟨w.heap.size, 0, none⟩) n c) (w.drew.alloc (.cells (List.replicate c (.int .u8 0)).toArray 5)) := by
  refine ⟨grownCap w n 0 5, grownCap_ge w n 0 5, grownCap_le_maxLen w n 0 5 (by unfold maxLen; omega), ?_⟩
  have hge := grownCap_ge w n 0 5
  obtain ⟨i0, hi, hz, hs, hb⟩ := infoOf info5
  have hn : n ≠ 0 := by omega
  have hw : IntKind.i64.wrap (n : Int) = n := by rw [IntKind.wrap_i64]; omega
  have h63' : ¬ (9223372036854775807 < ((n : Int))) := by omega
  have h48' : ¬ (281474976710656 < Builtin.nextslicecap n 0 * i0.bytes) := by rw [hb]; simp [Builtin.nextslicecap, h0]; omega
  have h48i : ¬ (281474976710656 < (n : Int) * (i0.bytes : Int)) := by rw [hb]; omega
  have hneg : ¬ ((n : Int) < 0) := by omega
  have zc : ∀ k, Builtin.zeroCells #[Value.int .u8 0] k = (List.replicate k (.int .u8 0)).toArray := fun k => by
    apply Array.ext'
    simp only [Builtin.zeroCells, Array.toList_map, Array.toList_range, List.size_toArray, List.length_singleton, Nat.mul_one, Nat.mod_one]
    exact List.map_const' .. |>.trans (by simp)
  have hz' : (Builtin.zeroCells #[Value.int .u8 0] n ++ Builtin.zeroCells #[Value.int .u8 0] (grownCap w n 0 5 - n)) = (List.replicate (grownCap w n 0 5) (.int .u8 0)).toArray := by
    rw [zc, zc, List.append_toArray, List.replicate_append_replicate, Nat.add_sub_cancel' hge]
  simp [Builtin.append_, run_underlying und22, run_underlying undI, sizeOf, typeInfo, zeroValue, hi, hz, hs, hn, hw, h63', h48', h48i, hneg, asInt, asIntOf, Question.forced, newRow, run_firstCells_none]
  have hz2 : (Array.replicate (grownCap w n 0 5) (Value.int .u8 0)) = (List.replicate (grownCap w n 0 5) (.int .u8 0)).toArray := by simp
  refine ⟨rfl, ?_⟩
  rw [hz2, ← hz']
  rfl
/-- room for n bytes -/
theorem grow_any (n : Nat) (hn : n ≤ 100000000) (w : World) :
    Calls Tryz.prog 119 ([.slice none 0 0, .int .i64 n] : List Value).toArray w fun e w' => ∃ r, e = .returned (sv r 0) ∧ Rw 1 0 r [] ∧ Made w w' r [] 5 ∧ Below w.heap.size w w' := by
  have hz := fun w h0 => run_zeros w n h0 (by omega)
  refine (enter tab_ok Tryz.func119 rfl Tryz.ntmps119 rfl (St.start w) (R := fun v w' => ∃ r, v = sv r 0 ∧ Rw 1 0 r [] ∧ Made w w' r [] 5 ∧ Below w.heap.size w w') ?_).mono (fun e w' ⟨v, he, r, hv, h⟩ => ⟨r, by rw [he, hv], h⟩)
  refine cf (by simp) ?_
  refine .as 0 (by omega) (by decide) (by decide) ?_
  refine .as n (by omega) (by simp only [mn]; omega) (by simp only [mx]; omega) ?_
  refine cd (fun h => ?_) (fun h => ?_)
  · have hn0 : 0 < n := by omega
    refine ⟨.mk 0 0 0 rfl rfl rfl (by decide) (by decide) (by decide) (by simp) ?_⟩
    refine apRun fun w' hs => ?_
    refine (hz w' hn0).elim fun c h => ?_
    refine ⟨_, _, _, h.2.2, hs.drew.alloc _, ?_⟩
    have h1 := h.1
    have h2 := h.2.1
    clear h
    refine ⟨.mk 0 0 c rfl rfl rfl (by decide) (by omega) (by omega) (by simp) (.on (by omega) ?_)⟩
    refine ⟨fun w1 hs1 => ⟨some (w'.heap.size, c, List.replicate c (.int .u8 0)), rfl, ⟨rfl, by omega, h2, by simp⟩, ?_, hs1.below⟩⟩
    exact made_of (r := some (w'.heap.size, c, List.replicate c (.int .u8 0))) hs1 rfl 0 rfl
  · refine ⟨fun w1 hs1 => ⟨none, rfl, Rw.nil 1, fun _ _ _ h => (by cases h), hs1.below⟩⟩
/-- the first k of some rows, one behind the other -/
def flat (xss : List (List Value)) (k : Nat) : List Value := (xss.take k).flatten
theorem flat_succ (xss : List (List Value)) (k : Nat) (h : k < xss.length) : flat xss (k + 1) = flat xss k ++ xss[k] := by
  unfold flat
  rw [List.take_succ_eq_append_getElem h, List.flatten_append]; simp
theorem flat_len_le (xss : List (List Value)) (k : Nat) : (flat xss k).length ≤ xss.flatten.length := by
  unfold flat
  conv => rhs; rw [← List.take_append_drop k xss]
  rw [List.flatten_append, List.length_append]; omega
theorem flat_all (xss : List (List Value)) : flat xss xss.length = xss.flatten := by simp [flat]
set_option maxRecDepth 100000 in
/-- rows of bytes, one behind the other -/
theorem concat_any (pb po kc : Nat) (vs : List Value) (xss : List (List Value)) (hlen : vs.length = xss.length) (w : World) (hpb : pb < w.heap.size) (hp : ∀ (i : Nat) (u : Value), vs[i]? = some u → w.cell? ⟨pb, po + i, none⟩ = some u)
    (hx : ∀ (i : Nat) (v : Value) (xs : List Value), vs[i]? = some v → xss[i]? = some xs → Rd w v xs) (h1 : ∀ xs ∈ xss, ∀ u ∈ xs, u.oneCell' = true) (hn : xss.flatten.length ≤ 100000000) (hk : xss.length ≤ 1000) :
    Calls Tryz.prog 89 ([.slice (some ⟨pb, po, none⟩) xss.length kc] : List Value).toArray w fun e w' => ∃ r, e = .returned (sv r xss.flatten.length) ∧ Rw 1 xss.flatten.length r xss.flatten ∧ Made w w' r xss.flatten 5 ∧ Below w.heap.size w w' := by
  have hg := fun w => grow_any xss.flatten.length hn w
  refine (enter tab_ok Tryz.func89 rfl Tryz.ntmps89 rfl (St.start w) (R := fun v w' => ∃ r, v = sv r xss.flatten.length ∧ Rw 1 xss.flatten.length r xss.flatten ∧ Made w w' r xss.flatten 5 ∧ Below w.heap.size w w') ?_).mono (fun e w' ⟨v, he, r, hv, h⟩ => ⟨r, by rw [he, hv], h⟩)
  refine lp tab_ok (fun i : Nat => i ≤ xss.length) (fun i => ⟨[(0, .slice (some ⟨pb, po, none⟩) xss.length kc), (3, .int .i64 (flat xss i).length), (9, .slice (some ⟨pb, po, none⟩) xss.length kc), (10, .int .i64 xss.length), (11, .int .i64 i)], [], []⟩) (fun i => xss.length - i) 0 (Nat.zero_le _) ⟨⟨rfl, rfl, rfl, rfl, rfl, trivial⟩, .nil, rfl⟩ ?_
  intro i hi
  refine cd (fun h => ?_) (fun h => ?_)
  · have hlt : i < xss.length := by omega
    obtain ⟨a, c, hv, _⟩ := hx i vs[i] xss[i] (by simp [hlen, hlt]) (by simp [hlt])
    have hle := flat_len_le xss (i + 1)
    have hsucc := flat_succ xss i hlt
    refine ⟨by omega, by omega, ?_⟩
    refine ldo (v := .slice a xss[i].length c) (by rw [← hv, nad_eq, nmu_eq]; simpa using hp i _ (by simp [hlen, hlt])) hpb ?_
    refine .as ((flat xss (i + 1)).length : Int) (by rw [hsucc, List.length_append]; omega) (by simp only [mn]; omega) (by simp only [mx]; omega) ?_
    refine cf (by simp) ?_
    refine .as ((i + 1 : Nat) : Int) (by omega) (by simp only [mn]; omega) (by simp only [mx]; omega) ?_
    exact ⟨i + 1, by omega, by omega, ⟨⟨rfl, rfl, rfl, rfl, rfl, trivial⟩, .nil, rfl⟩⟩
  · obtain rfl : i = xss.length := by omega
    rw [flat_all]
    refine co (fun w _ => hg w) (fun r hr => ?_)
    refine lp tab_ok (fun x : Nat × Sx.Own => x.1 ≤ xss.length ∧ Rw 1 (flat xss x.1).length x.2 (flat xss x.1)) (fun x => ⟨[(6, sv x.2 (flat xss x.1).length), (25, .slice (some ⟨pb, po, none⟩) xss.length kc), (26, .int .i64 xss.length), (27, .int .i64 x.1)], [se x.2 (flat xss x.1) 5], []⟩) (fun x => xss.length - x.1) (0, r) ⟨Nat.zero_le _, hr⟩ ⟨⟨rfl, rfl, rfl, rfl, trivial⟩, .cons .nil, rfl⟩ ?_
    rintro ⟨i, r⟩ ⟨hi, hR⟩
    refine cd (fun h => ?_) (fun h => ?_)
    · have hlt : i < xss.length := by simp only at h; omega
      have hrd := hx i vs[i] xss[i] (by simp [hlen, hlt]) (by simp [hlt])
      obtain ⟨a, c, hv, _⟩ := hx i vs[i] xss[i] (by simp [hlen, hlt]) (by simp [hlt])
      have hle := flat_len_le xss (i + 1)
      have hsucc := flat_succ xss i hlt
      have hsl := congrArg List.length hsucc
      rw [List.length_append] at hsl
      refine ⟨by omega, by omega, ?_⟩
      refine ldo (v := .slice a xss[i].length c) (by rw [← hv, nad_eq, nmu_eq]; simpa using hp i _ (by simp [hlen, hlt])) hpb ?_
      refine ap (n := (flat xss i).length) (m := xss[i].length) (news := xss[i]) 0 tab_ok rfl info5 rfl rfl hR (fun w' hs => ?_) (by omega) (by unfold maxLen; omega) (fun r' hR' => ?_)
      · rw [← hv]; exact (hrd.below hs.below).src und22 (h1 _ (List.getElem_mem hlt))
      · refine .as ((i + 1 : Nat) : Int) (by simp only; omega) (by simp only [mn]; omega) (by simp only [mx]; omega) ?_
        rw [← hsl, ← hsucc] at *
        exact ⟨(i + 1, r'), ⟨by omega, hR'⟩, by simp only; omega, ⟨⟨rfl, rfl, rfl, rfl, trivial⟩, .cons .nil, rfl⟩⟩
    · obtain rfl : i = xss.length := by simp only at h hi; omega
      simp only [flat_all] at hR ⊢
      refine ⟨fun w1 hs1 => ⟨r, rfl, hR, made_of hs1 rfl 0 rfl, hs1.below⟩⟩
end Go.Proofs.YteamnhpplclmfaaGreatDoor
end
section
namespace Go.Proofs.YteamnhpplclmfaaGreatDoor
open Go.RowKit Go.Sx
set_option linter.unusedVariables false

/-- a call that hands back a row of its own, and more -/
theorem coV {C : Cx} {L : List Ent} {g : FuncId} {vs : List Value} {n z : Nat} {xs : List Value} {e : TypeId} {next : Value → List Ent → Prop} (F : Value → Value)
    (h : ∀ w, St C.M C.B w L → Calls C.P g vs.toArray w fun en w' => ∃ r, en = .returned (F (sv r n)) ∧ Rw z n r xs ∧ Made w w' r xs e ∧ Below w.heap.size w w')
    (go : ∀ r, Rw z n r xs → next (F (sv r n)) (L ++ [se r xs e])) : CallP C g vs L next := by
  refine ⟨fun w hs => (h w hs).mono fun en w' ⟨r, he, hR, ho, hb⟩ => ⟨_, _, he, ?_, go r hR⟩⟩
  cases r with
  | none => exact (hs.call hb).deads
  | some p =>
    obtain ⟨b, c, j⟩ := p
    obtain ⟨h1, h2⟩ := ho b c j rfl
    exact hs.add hb h1 h2
/-- the blocks of a row of one's own -/
def rowB (r : Sx.Own) (k : Nat) : Prop := ∃ b c j, r = some (b, c, j) ∧ k = b
theorem RdR.own {M : Bks} {B w : World} {L : List Ent} (hs : St M B w L) (k : Nat) {r : Sx.Own} {xs : List Value} {e : TypeId} {n : Nat} (hk : L[k]? = some (se r xs e)) (hR : Rw 1 n r xs) : RdR (rowB r) w (sv r n) xs := by
  obtain ⟨h1, h2⟩ := hR
  have hn : xs.length = n := by omega
  cases r with
  | none =>
    simp only at h2; subst h2
    have hx : xs = [] := List.eq_nil_of_length_eq_zero hn
    subst hx
    exact ⟨none, 0, rfl, Nat.le_refl _, Nat.zero_le _, by simp, fun _ => rfl, fun h => absurd rfl h⟩
  | some p =>
    obtain ⟨b, c, j⟩ := p
    refine ⟨some ⟨b, 0, none⟩, c, by rw [hn]; rfl, by rw [hn]; exact h2.1, h2.2.1, by rintro x hx; obtain rfl := Option.some.inj hx; rfl, fun h => (by cases h), fun hx => ⟨b, 0, rfl, ⟨b, c, j, rfl, rfl⟩, hs.lt (List.mem_of_getElem? hk) rfl, fun i u hu => ?_⟩⟩
    have := hs.cell (k := k) (b := b) hk (0 + i)
    rw [this, Nat.zero_add]
    have hi := (List.getElem?_eq_some_iff.1 hu).1
    simp [List.getElem?_append_left hi, hu]
set_option maxRecDepth 100000 in
theorem clone_any (v : Value) (x : List UInt8) (hx : x.length ≤ 16777216) (w : World) (hv : Rd w v (Lib.byteCells x)) : Calls Tryz.prog 41 ([v] : List Value).toArray w fun e w' => ∃ r, e = .returned (sv r x.length) ∧ Rw 1 x.length r (Lib.byteCells x) ∧ Made w w' r (Lib.byteCells x) 5 ∧ Below w.heap.size w w' := by
  have hv0 := hv
  obtain ⟨a, c, rfl, hn⟩ := hv
  rw [Lib.byteCells_length] at hv0 ⊢
  refine (enter tab_ok Tryz.func41 rfl Tryz.ntmps41 rfl (St.start w) (R := fun v w' => ∃ r, v = sv r x.length ∧ Rw 1 x.length r (Lib.byteCells x) ∧ Made w w' r (Lib.byteCells x) 5 ∧ Below w.heap.size w w') ?_).mono (fun e w' ⟨v, he, r, hv, h⟩ => ⟨r, by rw [he, hv], h⟩)
  cases a with
  | none =>
    have h0 : x = [] := by
      by_cases h : x = []
      · exact h
      · obtain ⟨b, o, h1, _⟩ := hn (by intro h'; have := congrArg List.length h'; rw [Lib.byteCells_length] at this; exact h (List.eq_nil_of_length_eq_zero this))
        cases h1
    subst h0
    refine ct rfl ?_
    exact ⟨fun w1 hs => ⟨none, rfl, Rw.nil 1, (fun _ _ _ h => by cases h), hs.below⟩⟩
  | some a =>
    refine cf rfl ?_
    refine .mk _ _ (fun w => bsl0 w) (fun b1 => ?_)
    refine ap (r := some (b1, 0, [])) (xs := []) (n := 0) (m := (Lib.byteCells x).length) (news := Lib.byteCells x) 0 tab_ok rfl info5 rfl rfl ⟨rfl, Nat.le_refl _, Nat.zero_le _, rfl⟩ (fun w' hs => (hv0.below hs.below).src und22 (one8 x)) (by rw [Lib.byteCells_length]; omega) (by rw [Lib.byteCells_length]; unfold maxLen; omega) (fun r1 hR1 => ?_)
    rw [List.nil_append] at hR1
    rw [Nat.zero_add, Lib.byteCells_length] at hR1
    refine ⟨fun w1 hs => ⟨r1, ?_, hR1, made_of hs rfl 0 rfl, hs.below⟩⟩
    show sv r1 (0 + _) = _
    rw [Nat.zero_add, Lib.byteCells_length]
def readD (D : Dk) (n : List UInt8) : List UInt8 × Nat := if D.gone then ([], 4) else match findF n D.files with
  | none => ([], 5)
  | some f => (f.bs, 0)
theorem dk_below {S : DkS} {w w' : World} (h : DkP S w) (hs : Below w.heap.size w w') : DkP S w' := (dkR S).st w w' (fun k hk => hs.block k ((dkR S).bd w h k hk)) h
set_option maxRecDepth 100000 in
theorem read_any (S : DkS) (n : List UInt8) (w : World) (h : DkP S w) : Calls Tryz.prog 61 ([ptr S.bd, VS n] : List Value).toArray w fun e w' =>
    ∃ r, e = .returned (.tuple #[sv r (readD S.D n).1.length, errV (readD S.D n).2]) ∧ Rw 1 (readD S.D n).1.length r (Lib.byteCells (readD S.D n).1) ∧ Made w w' r (Lib.byteCells (readD S.D n).1) 5 ∧ Below w.heap.size w w' := by
  refine (enter tab_ok Tryz.func61 rfl Tryz.ntmps61 rfl (St.start w) (R := fun v w' => ∃ r, v = .tuple #[sv r (readD S.D n).1.length, errV (readD S.D n).2] ∧ Rw 1 (readD S.D n).1.length r (Lib.byteCells (readD S.D n).1) ∧ Made w w' r (Lib.byteCells (readD S.D n).1) 5 ∧ Below w.heap.size w w') ?_).mono (fun e w' ⟨v, he, r, hv, h⟩ => ⟨r, by rw [he, hv], h⟩)
  refine cvs (fun w' hs => down_any S w' (dk_below h hs.below)) ?_
  cases hg : S.D.gone with
  | true =>
    have e1 : readD S.D n = ([], 4) := if_pos hg
    rw [e1]
    refine ct rfl ?_
    exact ⟨fun w1 hs => ⟨none, rfl, Rw.nil 1, (fun _ _ _ h => by cases h), hs.below⟩⟩
  | false =>
    have e1 : readD S.D n = match findF n S.D.files with | none => ([], 5) | some f => (f.bs, 0) := if_neg (by rw [hg]; decide)
    refine cf rfl ?_
    refine cvs (fun w' hs => has_any S n w' (dk_below h hs.below)) ?_
    rcases getF h.f.all n with ⟨h1, h2⟩ | ⟨f, v, h1, h2, h3⟩
    · rw [h1] at e1
      rw [e1, h2]
      intro b
      refine sN 0 rfl rfl rfl ?_ (by kernel_rfl)
      refine ld1 0 rfl (v := .slice none 0 0) rfl ?_
      refine coV id (fun w' hs => clone_any _ [] (Nat.zero_le _) w' (rd_nil _ _ _)) (fun r hR => ?_)
      exact ⟨fun w1 hs => ⟨r, rfl, hR, made_of hs rfl 1 rfl, hs.below⟩⟩
    · obtain ⟨a, c, hvv, _⟩ := id h3
      subst hvv
      rw [h1] at e1
      rw [e1, h2]
      have hz := (h.f.sz f (findF_mem h1).1).2.1
      rw [Lib.byteCells_length] at h3 ⊢
      intro b
      refine sN 0 rfl rfl rfl ?_ (by kernel_rfl)
      refine ld1 0 rfl (v := .slice a f.bs.length c) rfl ?_
      refine coV id (fun w' hs => clone_any _ f.bs hz w' (h3.rd.below hs.below)) (fun r hR => ?_)
      exact ⟨fun w1 hs => ⟨r, rfl, hR, made_of hs rfl 1 rfl, hs.below⟩⟩
end Go.Proofs.YteamnhpplclmfaaGreatDoor
end
section
namespace Go.Proofs.YteamnhpplclmfaaGreatDoor
open Go.RowKit Go.Sx
set_option linter.unusedVariables false

/-- «as» it lay, nothing of it has turned -/
theorem dk_now {S : DkS} {w w' : World} {L : List Ent} (h : DkP S w) (hs : St [bl S.bd, bl S.bm] w w' L) (h0 : L[0]? = some (cl S.bd (dkC S.D S.bm) TD)) (h1 : L[1]? = some (me S.bm keS S.es S.clk)) : DkP S w' := by
  have hr : ∀ k, S.rr k → w'.heap[k]? = w.heap[k]? := fun k hk => hs.old k (h.r k hk).1 (by simp [bl]; exact (h.r k hk).2)
  exact ⟨hs.nth h0, hs.nth h1, h.f.same hr, h.ne, fun k hk => ⟨Nat.lt_of_lt_of_le (h.r k hk).1 hs.size, (h.r k hk).2⟩⟩
theorem dk_old {S : DkS} {w w' : World} {L : List Ent} (h : DkP S w) (hs : St [bl S.bd, bl S.bm] w w' L) : ∀ k, S.rr k → w'.heap[k]? = w.heap[k]? :=
  fun k hk => hs.old k (h.r k hk).1 (by simp [bl]; exact (h.r k hk).2)
/-- its files have turned -/
theorem turn_files {S : DkS} {w w' : World} {L : List Ent} (h : DkP S w) (hs : St [bl S.bd, bl S.bm] w w' L) (D' : Dk) (rr' : Nat → Prop) (es' : Es (List UInt8)) (clk' : Nat) (h0 : L[0]? = some (cl S.bd (dkC D' S.bm) TD)) (h1 : L[1]? = some (me S.bm keS es' clk'))
    (hf : FilesOk rr' w' es' clk' D'.files) (hr : ∀ k, rr' k → S.rr k ∨ (w.heap.size ≤ k ∧ k < w'.heap.size)) : Turns w w' (dkR S) (dkR ⟨D', S.bd, S.bm, rr', es', clk'⟩) := by
  have l0 := (Array.getElem?_eq_some_iff.1 h.d).1
  have l1 := (Array.getElem?_eq_some_iff.1 h.m).1
  refine Turns.of_st hs (fun k hk => ?_) ⟨hs.nth h0, hs.nth h1, hf, h.ne, fun k hk => ?_⟩ (fun k hk => .inl hk) (fun k hk => ?_)
  · simpa [bl, dkR] using hk
  · rcases hr k hk with h2 | ⟨h2, h3⟩
    · exact ⟨Nat.lt_of_lt_of_le (h.r k h2).1 hs.size, (h.r k h2).2⟩
    · exact ⟨h3, by show k ≠ S.bd; omega, by show k ≠ S.bm; omega⟩
  · rcases hk with hk | hk
    · exact .inl (.inl hk)
    · rcases hr k hk with h2 | ⟨h2, h3⟩
      · exact .inl (.inr h2)
      · exact .inr h2
/-- what lies behind the disk's two blocks is new -/
theorem st_fresh {a b d : Nat} {w w' : World} {L : List Ent} {o oa ob : Obj} {k : Nat} (hs : St [bl a, bl b] w w' L) (hk : L[k]? = some ⟨d, some o, false, none⟩) (h0 : L[0]? = some ⟨a, some oa, false, none⟩) (h1 : L[1]? = some ⟨b, some ob, false, none⟩) (hk2 : 2 ≤ k) : w.heap.size ≤ d := by
  rcases hs.own _ (List.mem_of_getElem? hk) rfl rfl with h9 | h9
  · exact h9
  · simp only [inM_cons, inM_nil, or_false, bl] at h9
    rcases h9 with h9 | h9
    · exact ((pw_ne hs.apart hk h0 (by omega) d).1 (by simp) (by simp [h9])).elim
    · exact ((pw_ne hs.apart hk h1 (by omega) d).1 (by simp) (by simp [h9])).elim
theorem le_sum {l : List Nat} {a : Nat} (h : a ∈ l) : a ≤ l.sum := by
  induction l with
  | nil => cases h
  | cons b l ih =>
    rcases List.mem_cons.1 h with rfl | h
    · simp
    · have := ih h; simp; omega
theorem stepD_files (D : Dk) : (stepD D).2.files = D.files := by unfold stepD; split <;> rfl
/-- which error, and the disk then -/
def appendD (D : Dk) (n x : List UInt8) : Dk × Nat :=
  if namedL n = false then (D, 5) else if (D.quota : Int) - usedD D.files < x.length then (D, 3) else
  if (stepD D).1 then ({ (stepD D).2 with files := setF ⟨n, (match findF n D.files with | some f => f.bs | none => []) ++ x, match findF n D.files with | some f => f.sure | none => 0⟩ D.files }, 0) else ((stepD D).2, 4)
theorem infoS : (Tryz.prog.info? 22).map (fun i => (i.zero, i.size, i.bytes)) = some (some (.slice none 0 0), 1, 24) := by kernel_rfl
theorem undSS : Tryz.prog.underlying 36 = some (.slice 22) := by kernel_rfl
theorem bsS2 (a b : Option Addr) (n m k l : Nat) (w : World) : (Instr.buildSlice 36 2 #[(0, .slice a n k), (1, .slice b m l)]).run Tryz.prog w = .ok (.slice (some ⟨w.heap.size, 0, none⟩) 2 2) (w.alloc (.cells #[.slice a n k, .slice b m l] 22)) := by
  obtain ⟨i, hi, hz, hs, hb⟩ := infoOf infoS
  exact run_buildSlice w _ _ 2 _ #[.slice a n k, .slice b m l] i (.slice none 0 0) undSS hi hz (by rw [hs]; decide) (by rw [hs]; decide) (by rw [hs]; kernel_rfl)
/-- what a function that turns a disk does -/
def TurnR (S : DkS) (w : World) (D' : Dk) (code : Nat) (e : Ending) (w' : World) : Prop := ∃ S' : DkS, S'.D = D' ∧ S'.bd = S.bd ∧ S'.bm = S.bm ∧ e = .returned (errV code) ∧ Turns w w' (dkR S) (dkR S')
theorem TurnR.same {S : DkS} {w w' : World} (h : DkP S w) {L : List Ent} (hs : St [bl S.bd, bl S.bm] w w' L) (h0 : L[0]? = some (cl S.bd (dkC S.D S.bm) TD)) (h1 : L[1]? = some (me S.bm keS S.es S.clk)) (code : Nat) {v : Value} (hv : v = errV code) : TurnR S w S.D code (.returned v) w' := by
  refine ⟨S, rfl, rfl, rfl, by rw [hv], ?_⟩
  have := turn_files (S := S) h hs S.D S.rr S.es S.clk h0 h1 (dk_now h hs h0 h1).f (fun k hk => .inl hk)
  exact this
theorem TurnR.down {S : DkS} {w w' : World} (h : DkP S w) {L : List Ent} (hs : St [bl S.bd, bl S.bm] w w' L) (h0 : L[0]? = some (cl S.bd (dkC (stepD S.D).2 S.bm) TD)) (h1 : L[1]? = some (me S.bm keS S.es S.clk)) {v : Value} (hv : v = ErrN 4) : TurnR S w (stepD S.D).2 4 (.returned v) w' := by
  refine ⟨S.withD (stepD S.D).2, rfl, rfl, rfl, by rw [hv]; rfl, ?_⟩
  exact turn_nums h hs _ (stepD_files _) (hs.nth h0) (hs.nth h1)
def xss (a b : List UInt8) : List (List Value) := [Lib.byteCells a, Lib.byteCells b]
set_option maxRecDepth 100000 in
set_option maxHeartbeats 1000000 in
theorem append_any (S : DkS) (n x : List UInt8) (hn : n.length ≤ 1000000) (hx : x.length ≤ 1000000) (v : Value) (w : World) (h : DkP S w) (hv : Rd w v (Lib.byteCells x)) (hvd : ∀ w' : World, w.heap.size ≤ w'.heap.size → (∀ k, k < w.heap.size → ¬ InM [bl S.bd, bl S.bm] k → w'.heap[k]? = w.heap[k]?) → Rd w' v (Lib.byteCells x))
    (hst : S.D.steps ≤ 1000000) (hl : S.D.left ≤ 9223372036854775807) (hu : usedD S.D.files ≤ 16777216) (hq : S.D.quota ≤ 16777216) : Calls Tryz.prog 38 ([ptr S.bd, VS n, v] : List Value).toArray w (TurnR S w (appendD S.D n x).1 (appendD S.D n x).2) := by
  have hxw := hvd
  obtain ⟨xa, xc, rfl, _⟩ := hv
  rw [Lib.byteCells_length] at hxw ⊢
  refine (enter tab_ok Tryz.func38 rfl Tryz.ntmps38 rfl (dk_rw h) (R := fun v w' => TurnR S w (appendD S.D n x).1 (appendD S.D n x).2 (.returned v) w') ?_).mono (fun e w' ⟨v, he, h⟩ => by rw [he]; exact h)
  intro b3 b4 b5
  refine ld1 2 rfl rfl ?_
  refine cf rfl ?_
  refine ld1 3 rfl rfl ?_
  refine cv (named_any n hn) ?_
  cases hnm : namedL n with
  | false =>
    have e1 : appendD S.D n x = (S.D, 5) := if_pos hnm
    rw [e1]
    refine ct rfl ?_
    exact ⟨fun w1 hs => TurnR.same h hs rfl rfl 5 rfl⟩
  | true =>
    refine cf rfl ?_
    refine dr [cl S.bd (dkC S.D S.bm) TD, me S.bm keS S.es S.clk, cl b3 #[ptr S.bd] 37, cl b4 #[VS n] 9, cl b5 #[.slice xa x.length xc] 22] 99 (.t 0 (.t 1 (.t 2 (.t 3 (.t 4 (.t 5 .nil)))))) tab_ok mixed_ok (by kernel_rfl) (.cons (.cons (.cons (.cons (.cons .nil))))) ?_
    refine ld1 4 rfl rfl ?_
    refine ld1 2 rfl rfl ?_
    refine czs (fun w' hs => free_any S w' (dk_now h hs rfl rfl) (by omega) hq) ?_
    by_cases hfull : (S.D.quota : Int) - usedD S.D.files < x.length
    · have e1 : appendD S.D n x = (S.D, 3) := by unfold appendD; rw [if_neg (by rw [hnm]; decide), if_pos hfull]
      rw [e1]
      refine ct (decide_eq_true hfull) ?_
      exact ⟨fun w1 hs => TurnR.same h hs rfl rfl 3 rfl⟩
    · refine cf (decide_eq_false hfull) ?_
      refine ld1 2 rfl rfl ?_
      refine step_in 0 rfl rfl hst hl (fun h0 => ?_) (fun h0 => ?_)
      · have e1 : appendD S.D n x = ((stepD S.D).2, 4) := by unfold appendD; rw [if_neg (by rw [hnm]; decide), if_neg hfull, if_neg (by rw [h0]; decide)]
        rw [e1]
        exact ⟨fun w1 hs => TurnR.down h hs rfl rfl rfl⟩
      · refine inl (C := ⟨Tryz.prog, tab, 44, [bl S.bd, bl S.bm], w, none⟩) tab_ok Tryz.func88 rfl Tryz.ntmps88 rfl ?_
        obtain ⟨f0, s0, a, l, c, hl0, hget, hf0, hD, hb1, hb2⟩ : ∃ f0 s0 a l c, l = f0.length ∧ (getS n S.es).getD zF = .agg #[.slice a l c, .int .i64 (s0 : Nat)] ∧ (∀ w', (∀ k, S.rr k → w'.heap[k]? = w.heap[k]?) → RdR S.rr w' (.slice a f0.length c) (Lib.byteCells f0)) ∧ (appendD S.D n x).1 = { (stepD S.D).2 with files := setF ⟨n, f0 ++ x, s0⟩ S.D.files } ∧ s0 ≤ f0.length ∧ f0.length + x.length ≤ 16777216 := by
          have e1 : appendD S.D n x = ({ (stepD S.D).2 with files := setF ⟨n, (match findF n S.D.files with | some f => f.bs | none => []) ++ x, match findF n S.D.files with | some f => f.sure | none => 0⟩ S.D.files }, 0) := by unfold appendD; rw [if_neg (by rw [hnm]; decide), if_neg hfull, if_pos h0]
          have hle : ∀ f ∈ S.D.files, f.bs.length ≤ usedD S.D.files := fun f hf => by
            unfold usedD
            exact le_sum (List.mem_map_of_mem (f := fun f : Fe => f.bs.length) hf)
          rw [e1]
          rcases getF h.f.all n with ⟨h1, h2⟩ | ⟨f, v, h1, h2, h3⟩
          · rw [h1, h2]
            exact ⟨[], 0, none, 0, 0, rfl, rfl, fun w' _ => ⟨none, 0, rfl, Nat.le_refl _, Nat.zero_le _, by simp, fun _ => rfl, fun h => absurd rfl h⟩, rfl, Nat.le_refl _, by simp; omega⟩
          · have h3' := fun w' hh => h3.same (v := w') hh
            obtain ⟨a, c, rfl, _⟩ := h3
            rw [Lib.byteCells_length] at h3' h2
            rw [h1, h2]
            have := hle f (findF_mem h1).1
            exact ⟨f.bs, f.sure, a, _, c, rfl, rfl, h3', rfl, (h.f.sz f (findF_mem h1).1).1, by omega⟩
        have hcode : (appendD S.D n x).2 = 0 := by unfold appendD; rw [if_neg (by rw [hnm]; decide), if_neg hfull, if_pos h0]
        rw [hcode]
        subst hl0
        have hcatl : (xss f0 x).flatten = Lib.byteCells (f0 ++ x) := by simp [xss, Lib.byteCells_append]
        refine dr [cl S.bd (dkC (stepD S.D).2 S.bm) TD, me S.bm keS S.es S.clk, cl b3 #[ptr S.bd] 37, cl b4 #[VS n] 9, cl b5 #[.slice xa x.length xc] 22] 99 (.t 0 (.t 1 (.t 2 (.t 3 (.t 4 (.b 5 6 (.n 6 (.n 7 .nil)) (.n 5 (.n 7 .nil)))))))) tab_ok mixed_ok (by kernel_rfl) (.cons (.cons (.cons (.cons (.cons .nil))))) ?_
        refine ld1 2 rfl rfl ?_
        refine ld1 0 rfl (v := .map (some S.bm)) rfl ?_
        refine ld1 3 rfl rfl ?_
        refine ⟨?_, ?_⟩
        · refine lkp (ke := keS) (k := n) 1 rfl undM keyM zeroF ?_
          rw [if_neg (by decide), hget]
          refine ⟨.cons (.cons (.cons (.cons (.cons .nil)))), ?_⟩
          intro b6
          refine ⟨.cons (.cons (.cons (.cons (.cons .nil)))), ?_⟩
          refine sN 5 rfl rfl rfl ?_ (by kernel_rfl)
          refine ⟨.cons (.cons (.cons (.cons (.cons .nil)))), ?_⟩
          refine ld1 5 rfl (v := .slice a f0.length c) rfl ?_
          refine ld1 4 rfl rfl ?_
          refine .mk _ _ (bsS2 _ _ _ _ _ _) (fun b7 => ?_)
          refine co (xs := (xss f0 x).flatten) (n := (xss f0 x).flatten.length) (z := 1) (e := 5) (fun w1 hs => ?_) (fun r hR => ?_)
          · have hr := dk_old h hs
            refine concat_any b7 0 2 [.slice a f0.length c, .slice xa x.length xc] (xss f0 x) rfl w1 (hs.lt (List.mem_of_getElem? (i := 6) rfl) rfl) (fun i u hu => ?_) (fun i v xs h1 h2 => ?_) (fun xs hxs u hu => ?_) (by rw [hcatl, Lib.byteCells_length, List.length_append]; omega) (by simp [xss])
            · rw [hs.cell (k := 6) rfl (0 + i), Nat.zero_add]
              simpa using hu
            · rcases i with _ | _ | i
              · obtain rfl := Option.some.inj h1
                obtain rfl := Option.some.inj h2
                exact (hf0 w1 hr).rd
              · obtain rfl := Option.some.inj h1
                obtain rfl := Option.some.inj h2
                exact hxw w1 hs.size (fun k hk => hs.old k hk)
              · cases h1
            · simp only [xss, List.mem_cons, List.not_mem_nil, or_false] at hxs
              rcases hxs with rfl | rfl
              · exact one8 _ u hu
              · exact one8 _ u hu
          rw [hcatl] at hR ⊢
          refine s1 5 rfl (show 0 < 2 by decide) ?_ (h1 := by cases r <;> rfl) (hv := by cases r <;> rfl)
          refine dr [cl S.bd (dkC (stepD S.D).2 S.bm) TD, me S.bm keS S.es S.clk, cl b3 #[ptr S.bd] 37, cl b4 #[VS n] 9, cl b5 #[.slice xa x.length xc] 22, cl b6 #[sv r (Lib.byteCells (f0 ++ x)).length, .int .i64 s0] TF] 6 (.t 0 (.t 1 (.t 2 (.t 3 (.t 4 (.t 5 (.n 6 .nil))))))) tab_ok mixed_ok (by kernel_rfl) (.cons (.cons (.cons (.cons (.cons (.cons .nil)))))) ?_
          refine ld1 2 rfl rfl ?_
          refine ld1 0 rfl (v := .map (some S.bm)) rfl ?_
          refine ld1 3 rfl rfl ?_
          refine ldN 5 rfl rfl ?_
          refine mup (ke := keS) (k := n) 1 rfl undM keyM ?_
          refine bk ?_
          refine ⟨fun w1 hs => ?_⟩
          have hr := dk_old h hs
          have hown := RdR.own hs 7 rfl hR
          refine ⟨⟨{ (stepD S.D).2 with files := setF ⟨n, f0 ++ x, s0⟩ S.D.files }, S.bd, S.bm, fun k => S.rr k ∨ rowB r k, setS n (.agg #[sv r (Lib.byteCells (f0 ++ x)).length, .int .i64 s0]) S.clk S.es, clkS n S.es S.clk⟩, hD.symm, rfl, rfl, rfl, ?_⟩
          refine turn_files h hs _ _ _ _ rfl rfl ?_ (fun k hk => ?_)
          · have hfo := (h.f.same hr).mono (rr' := fun k => S.rr k ∨ rowB r k) (fun k hk => .inl hk)
            exact hfo.set ⟨n, f0 ++ x, s0⟩ (sv r (Lib.byteCells (f0 ++ x)).length) (hown.mono fun k hk => .inr hk) (by simp only [List.length_append]; omega) (by simp only [List.length_append]; omega) (namedL_len hnm)
          · rcases hk with hk | ⟨b, c', j, rfl, rfl⟩
            · exact .inl hk
            · refine .inr ⟨?_, hs.lt (List.mem_of_getElem? (i := 7) rfl) rfl⟩
              exact st_fresh (k := 7) hs rfl rfl rfl (by decide)
        · intro b6
          refine ⟨.cons (.cons (.cons (.cons (.cons .nil)))), ?_⟩
          refine lkp (ke := keS) (k := n) 1 rfl undM keyM zeroF ?_
          rw [if_neg (by decide), hget]
          refine ⟨.cons (.cons (.cons (.cons (.cons .nil)))), ?_⟩
          refine sN 5 rfl rfl rfl ?_ (by kernel_rfl)
          refine ⟨.cons (.cons (.cons (.cons (.cons .nil)))), ?_⟩
          refine ld1 5 rfl (v := .slice a f0.length c) rfl ?_
          refine ld1 4 rfl rfl ?_
          refine .mk _ _ (bsS2 _ _ _ _ _ _) (fun b7 => ?_)
          refine co (xs := (xss f0 x).flatten) (n := (xss f0 x).flatten.length) (z := 1) (e := 5) (fun w1 hs => ?_) (fun r hR => ?_)
          · have hr := dk_old h hs
            refine concat_any b7 0 2 [.slice a f0.length c, .slice xa x.length xc] (xss f0 x) rfl w1 (hs.lt (List.mem_of_getElem? (i := 6) rfl) rfl) (fun i u hu => ?_) (fun i v xs h1 h2 => ?_) (fun xs hxs u hu => ?_) (by rw [hcatl, Lib.byteCells_length, List.length_append]; omega) (by simp [xss])
            · rw [hs.cell (k := 6) rfl (0 + i), Nat.zero_add]
              simpa using hu
            · rcases i with _ | _ | i
              · obtain rfl := Option.some.inj h1
                obtain rfl := Option.some.inj h2
                exact (hf0 w1 hr).rd
              · obtain rfl := Option.some.inj h1
                obtain rfl := Option.some.inj h2
                exact hxw w1 hs.size (fun k hk => hs.old k hk)
              · cases h1
            · simp only [xss, List.mem_cons, List.not_mem_nil, or_false] at hxs
              rcases hxs with rfl | rfl
              · exact one8 _ u hu
              · exact one8 _ u hu
          rw [hcatl] at hR ⊢
          refine s1 5 rfl (show 0 < 2 by decide) ?_ (h1 := by cases r <;> rfl) (hv := by cases r <;> rfl)
          refine dr [cl S.bd (dkC (stepD S.D).2 S.bm) TD, me S.bm keS S.es S.clk, cl b3 #[ptr S.bd] 37, cl b4 #[VS n] 9, cl b5 #[.slice xa x.length xc] 22, cl b6 #[sv r (Lib.byteCells (f0 ++ x)).length, .int .i64 s0] TF] 6 (.t 0 (.t 1 (.t 2 (.t 3 (.t 4 (.t 5 (.n 6 .nil))))))) tab_ok mixed_ok (by kernel_rfl) (.cons (.cons (.cons (.cons (.cons (.cons .nil)))))) ?_
          refine ld1 2 rfl rfl ?_
          refine ld1 0 rfl (v := .map (some S.bm)) rfl ?_
          refine ld1 3 rfl rfl ?_
          refine ldN 5 rfl rfl ?_
          refine mup (ke := keS) (k := n) 1 rfl undM keyM ?_
          refine bk ?_
          refine ⟨fun w1 hs => ?_⟩
          have hr := dk_old h hs
          have hown := RdR.own hs 7 rfl hR
          refine ⟨⟨{ (stepD S.D).2 with files := setF ⟨n, f0 ++ x, s0⟩ S.D.files }, S.bd, S.bm, fun k => S.rr k ∨ rowB r k, setS n (.agg #[sv r (Lib.byteCells (f0 ++ x)).length, .int .i64 s0]) S.clk S.es, clkS n S.es S.clk⟩, hD.symm, rfl, rfl, rfl, ?_⟩
          refine turn_files h hs _ _ _ _ rfl rfl ?_ (fun k hk => ?_)
          · have hfo := (h.f.same hr).mono (rr' := fun k => S.rr k ∨ rowB r k) (fun k hk => .inl hk)
            exact hfo.set ⟨n, f0 ++ x, s0⟩ (sv r (Lib.byteCells (f0 ++ x)).length) (hown.mono fun k hk => .inr hk) (by simp only [List.length_append]; omega) (by simp only [List.length_append]; omega) (namedL_len hnm)
          · rcases hk with hk | ⟨b, c', j, rfl, rfl⟩
            · exact .inl hk
            · refine .inr ⟨?_, hs.lt (List.mem_of_getElem? (i := 7) rfl) rfl⟩
              exact st_fresh (k := 7) hs rfl rfl rfl (by decide)
end Go.Proofs.YteamnhpplclmfaaGreatDoor
end
section
namespace Go.Proofs.YteamnhpplclmfaaGreatDoor
open Go.RowKit Go.Sx
set_option linter.unusedVariables false

theorem biMin {C : Cx} {L : List Ent} {ts : Array TypeId} {t : TypeId} {cs : Array Bool} {k : IntKind} {x y : Int} {next : Value → List Ent → Prop} (go : next (.int k (min x y)) L) : BiP C .min ts t cs [.int k x, .int k y] L next := by
  have e : (if y < x then y else x) = min x y := by split <;> omega
  rw [← e] at go
  exact biV (m := Builtin.min_ ts t #[.int k x, .int k y]) rfl (fun w _ => run_min_int2 w ts t k k x y) go
theorem biMax {C : Cx} {L : List Ent} {ts : Array TypeId} {t : TypeId} {cs : Array Bool} {k : IntKind} {x y : Int} {next : Value → List Ent → Prop} (go : next (.int k (max x y)) L) : BiP C .max ts t cs [.int k x, .int k y] L next := by
  have e : (if y > x then y else x) = max x y := by split <;> omega
  rw [← e] at go
  exact biV (m := Builtin.max_ ts t #[.int k x, .int k y]) rfl (fun w _ => run_max_int2 w ts t k k x y) go
/-- a disk's step, and what is done with its files -/
def actD (D : Dk) (fs : List Fe) : Dk × Nat := if (stepD D).1 then ({ (stepD D).2 with files := fs }, 0) else ((stepD D).2, 4)
def syncD (D : Dk) (n : List UInt8) : Dk × Nat := match findF n D.files with
  | none => (D, 5)
  | some f => actD D (setF ⟨n, f.bs, f.bs.length⟩ D.files)
def cutD (D : Dk) (n : List UInt8) (size : Int) : Dk × Nat := match findF n D.files with
  | none => (D, 5)
  | some f => if size < 0 ∨ (f.bs.length : Int) < size then (D, 2) else actD D (setF ⟨n, f.bs.take size.toNat, min f.sure size.toNat⟩ D.files)
def renameD (D : Dk) (n m : List UInt8) : Dk × Nat := match findF n D.files with
  | none => (D, 5)
  | some f => if namedL m = false then (D, 5) else actD D (setF ⟨m, f.bs, f.bs.length⟩ (delF n D.files))
def dropD (D : Dk) (n : List UInt8) : Dk × Nat := match findF n D.files with
  | none => (D, 5)
  | some _ => actD D (delF n D.files)
/-- files turned, in the blocks that there were -/
theorem TurnR.done {S : DkS} {w w' : World} (h : DkP S w) {L : List Ent} (hs : St [bl S.bd, bl S.bm] w w' L) (fs : List Fe) (es' : Es (List UInt8)) (clk' : Nat) (hst : (stepD S.D).1 = true) (h0 : L[0]? = some (cl S.bd (dkC (stepD S.D).2 S.bm) TD)) (h1 : L[1]? = some (me S.bm keS es' clk'))
    (hf : FilesOk S.rr w' es' clk' fs) {v : Value} (hv : v = .nilIface) : TurnR S w (actD S.D fs).1 (actD S.D fs).2 (.returned v) w' := by
  have e1 : actD S.D fs = ({ (stepD S.D).2 with files := fs }, 0) := if_pos hst
  rw [e1]
  refine ⟨⟨{ (stepD S.D).2 with files := fs }, S.bd, S.bm, S.rr, es', clk'⟩, rfl, rfl, rfl, by rw [hv]; rfl, ?_⟩
  exact turn_files h hs _ _ _ _ h0 h1 hf (fun k hk => .inl hk)
theorem TurnR.off {S : DkS} {w w' : World} (h : DkP S w) {L : List Ent} (hs : St [bl S.bd, bl S.bm] w w' L) (fs : List Fe) (hst : (stepD S.D).1 = false) (h0 : L[0]? = some (cl S.bd (dkC (stepD S.D).2 S.bm) TD)) (h1 : L[1]? = some (me S.bm keS S.es S.clk)) {v : Value} (hv : v = ErrN 4) : TurnR S w (actD S.D fs).1 (actD S.D fs).2 (.returned v) w' := by
  have e1 : actD S.D fs = ((stepD S.D).2, 4) := if_neg (by rw [hst]; decide)
  rw [e1]; exact TurnR.down h hs h0 h1 hv
/-- a beginning of what is read -/
theorem RdR.cut {rr : Nat → Prop} {w : World} {a : Option Addr} {n c k : Nat} {l : List UInt8} (h : RdR rr w (.slice a n c) (Lib.byteCells l)) (hk : k ≤ l.length) : RdR rr w (.slice a k k) (Lib.byteCells (l.take k)) ∧ n = l.length ∧ l.length ≤ c ∧ c ≤ maxLen ∧ (∀ x, a = some x → x.spot = none) ∧ (a = none → c = 0) := by
  obtain ⟨a', c', e, h1, h2, h3, h3', h4⟩ := h
  injection e with e1 e2 e3
  subst e1 e3
  rw [Lib.byteCells_length] at h1 e2
  refine ⟨⟨a, k, by rw [Lib.byteCells_length, List.length_take, Nat.min_eq_left hk], by rw [Lib.byteCells_length, List.length_take]; omega, by omega, h3, fun h => by have := h3' h; omega, fun hx => ?_⟩, e2, h1, h2, h3, h3'⟩
  have hb : Lib.byteCells (l.take k) = (Lib.byteCells l).take k := by simp [Lib.byteCells, List.map_take]
  obtain ⟨b, o, ha, hb1, hb2, hc⟩ := h4 (by intro h0; apply hx; rw [hb, h0]; simp)
  refine ⟨b, o, ha, hb1, hb2, fun j u hu => ?_⟩
  rw [hb, List.getElem?_take] at hu
  split at hu
  · exact hc j u hu
  · cases hu
/-- s[:k:k] -/
theorem slCap {e z : Nat} {aa : Option Addr} {n cap k : Nat} (ha : ∀ a, aa = some a → a.spot = none) (hk : k ≤ cap) {next : Value → Prop} {fb : Prop} (go : next (.slice aa k k)) : SliP (.sl e z) (.slice aa n cap) none (some (k : Int)) (some (k : Int)) next fb := by
  refine ⟨?_⟩
  cases aa with
  | none => exact .mk 0 k k rfl rfl rfl (Nat.zero_le _) (Nat.le_refl _) hk (by simp) go
  | some a =>
    obtain ⟨b, o, sp⟩ := a
    obtain rfl : sp = none := ha _ rfl
    refine .mk 0 k k rfl rfl rfl (Nat.zero_le _) (Nat.le_refl _) hk (by simp) ?_
    by_cases h0 : k = 0
    · subst h0; exact .all rfl go
    · refine .on (by omega) ?_
      rw [nad_eq, nmu_eq, Nat.zero_mul, Nat.add_zero]; exact go
set_option maxRecDepth 100000 in
set_option maxHeartbeats 1000000 in
theorem sync_any (S : DkS) (n : List UInt8) (w : World) (h : DkP S w) (hst : S.D.steps ≤ 1000000) (hl : S.D.left ≤ 9223372036854775807) : Calls Tryz.prog 57 ([ptr S.bd, VS n] : List Value).toArray w (TurnR S w (syncD S.D n).1 (syncD S.D n).2) := by
  refine (enter tab_ok Tryz.func57 rfl Tryz.ntmps57 rfl (dk_rw h) (R := fun v w' => TurnR S w (syncD S.D n).1 (syncD S.D n).2 (.returned v) w') ?_).mono (fun e w' ⟨v, he, h⟩ => by rw [he]; exact h)
  intro b3 b4
  refine ld1 2 rfl rfl ?_
  refine ld1 3 rfl rfl ?_
  refine cvs (fun w' hs => has_any S n w' (dk_now h hs rfl rfl)) ?_
  rcases getF h.f.all n with ⟨h1, h2⟩ | ⟨f, v, h1, h2, h3⟩
  · have e1 : syncD S.D n = (S.D, 5) := by unfold syncD; rw [h1]
    rw [e1, h2]
    intro bf
    refine sN 4 rfl rfl rfl ?_ (by kernel_rfl)
    refine ct rfl ?_
    exact ⟨fun w1 hs => TurnR.same h hs rfl rfl 5 rfl⟩
  · have h3' := fun w' hh => h3.same (v := w') hh
    obtain ⟨a, c, rfl, _⟩ := h3
    rw [Lib.byteCells_length] at h3' h2
    have hz := h.f.sz f (findF_mem h1).1
    have hzn : n.length ≤ 64 := by rw [← (findF_mem h1).2]; exact hz.2.2
    rw [h2]
    intro bf
    refine sN 4 rfl rfl rfl ?_ (by kernel_rfl)
    refine cf rfl ?_
    have e1 : syncD S.D n = actD S.D (setF ⟨n, f.bs, f.bs.length⟩ S.D.files) := by unfold syncD; rw [h1]
    rw [e1]
    refine ld1 2 rfl rfl ?_
    refine step_in 0 rfl rfl hst hl (fun h0 => ?_) (fun h0 => ?_)
    · exact ⟨fun w1 hs => TurnR.off h hs (setF ⟨n, f.bs, f.bs.length⟩ S.D.files) h0 rfl rfl rfl⟩
    · refine inl (C := ⟨Tryz.prog, tab, 44, [bl S.bd, bl S.bm], w, none⟩) tab_ok Tryz.func104 rfl Tryz.ntmps104 rfl ?_
      refine dr [cl S.bd (dkC (stepD S.D).2 S.bm) TD, me S.bm keS S.es S.clk, cl b3 #[ptr S.bd] 37, cl b4 #[VS n] 9, cl bf #[.slice a f.bs.length c, .int .i64 f.sure] TF] 11 (.t 0 (.t 1 (.t 2 (.t 3 (.t 4 (.t 5 (.t 6 (.t 7 (.t 8 (.t 9 (.t 10 (.n 11 .nil)))))))))))) tab_ok mixed_ok (by kernel_rfl) (.cons (.cons (.cons (.cons (.cons (.nil)))))) ?_
      refine ld1 2 rfl rfl ?_
      refine ld1 0 rfl (v := .map (some S.bm)) rfl ?_
      refine ld1 3 rfl rfl ?_
      refine ld1 4 rfl (v := .slice a f.bs.length c) rfl ?_
      refine ld1 4 rfl (v := .slice a f.bs.length c) rfl ?_
      refine bu (c := #[.slice a f.bs.length c, .int .i64 f.bs.length]) (by kernel_rfl) ?_
      refine mup (ke := keS) (k := n) 1 rfl undM keyM ?_
      refine bk ?_
      exact ⟨fun w1 hs => TurnR.done h hs _ _ _ h0 rfl rfl ((h.f.same (dk_old h hs)).set ⟨n, f.bs, f.bs.length⟩ _ (h3' w1 (dk_old h hs)) (Nat.le_refl _) hz.2.1 hzn) rfl⟩
set_option maxRecDepth 100000 in
set_option maxHeartbeats 1000000 in
theorem drop_any (S : DkS) (n : List UInt8) (w : World) (h : DkP S w) (hst : S.D.steps ≤ 1000000) (hl : S.D.left ≤ 9223372036854775807) : Calls Tryz.prog 59 ([ptr S.bd, VS n] : List Value).toArray w (TurnR S w (dropD S.D n).1 (dropD S.D n).2) := by
  refine (enter tab_ok Tryz.func59 rfl Tryz.ntmps59 rfl (dk_rw h) (R := fun v w' => TurnR S w (dropD S.D n).1 (dropD S.D n).2 (.returned v) w') ?_).mono (fun e w' ⟨v, he, h⟩ => by rw [he]; exact h)
  intro b3 b4
  refine ld1 2 rfl rfl ?_
  refine ld1 3 rfl rfl ?_
  refine cvs (fun w' hs => has_any S n w' (dk_now h hs rfl rfl)) ?_
  rcases getF h.f.all n with ⟨h1, h2⟩ | ⟨f, v, h1, h2, h3⟩
  · have e1 : dropD S.D n = (S.D, 5) := by unfold dropD; rw [h1]
    rw [e1, h2]
    intro bf
    refine sN 4 rfl rfl rfl ?_ (by kernel_rfl)
    refine ct rfl ?_
    exact ⟨fun w1 hs => TurnR.same h hs rfl rfl 5 rfl⟩
  · have h3' := fun w' hh => h3.same (v := w') hh
    obtain ⟨a, c, rfl, _⟩ := h3
    rw [Lib.byteCells_length] at h3' h2
    have hz := h.f.sz f (findF_mem h1).1
    have hzn : n.length ≤ 64 := by rw [← (findF_mem h1).2]; exact hz.2.2
    rw [h2]
    intro bf
    refine sN 4 rfl rfl rfl ?_ (by kernel_rfl)
    refine cf rfl ?_
    have e1 : dropD S.D n = actD S.D (delF n S.D.files) := by unfold dropD; rw [h1]
    rw [e1]
    refine ld1 2 rfl rfl ?_
    refine step_in 0 rfl rfl hst hl (fun h0 => ?_) (fun h0 => ?_)
    · exact ⟨fun w1 hs => TurnR.off h hs (delF n S.D.files) h0 rfl rfl rfl⟩
    · refine inl (C := ⟨Tryz.prog, tab, 44, [bl S.bd, bl S.bm], w, none⟩) tab_ok Tryz.func105 rfl Tryz.ntmps105 rfl ?_
      refine dr [cl S.bd (dkC (stepD S.D).2 S.bm) TD, dead, cl b3 #[ptr S.bd] 37, cl b4 #[VS n] 9] 99 (.t 0 (.t 1 (.t 2 (.t 3 (.t 4 (.n 5 .nil)))))) tab_ok mixed_ok (by kernel_rfl) (.cons (.dead (.cons (.cons .nil)))) ?_
      refine ld1 2 rfl rfl ?_
      refine ld1 0 rfl (v := .map (some S.bm)) rfl ?_
      refine ld1 3 rfl rfl ?_
      refine dlt (ke := keS) (k := n) 1 rfl undM keyM ?_
      refine ⟨.cons (.dead (.cons (.cons .nil))), ?_⟩
      refine bk ?_
      exact ⟨fun w1 hs => TurnR.done h hs _ _ _ h0 rfl rfl ((h.f.same (dk_old h hs)).del n) rfl⟩
set_option maxRecDepth 100000 in
set_option maxHeartbeats 1000000 in
theorem rename_any (S : DkS) (n m : List UInt8) (hm : m.length ≤ 1000000) (w : World) (h : DkP S w) (hst : S.D.steps ≤ 1000000) (hl : S.D.left ≤ 9223372036854775807) : Calls Tryz.prog 100 ([ptr S.bd, VS n, VS m] : List Value).toArray w (TurnR S w (renameD S.D n m).1 (renameD S.D n m).2) := by
  refine (enter tab_ok Tryz.func100 rfl Tryz.ntmps100 rfl (dk_rw h) (R := fun v w' => TurnR S w (renameD S.D n m).1 (renameD S.D n m).2 (.returned v) w') ?_).mono (fun e w' ⟨v, he, h⟩ => by rw [he]; exact h)
  intro b3 b4 b5
  refine ld1 2 rfl rfl ?_
  refine ld1 3 rfl rfl ?_
  refine cvs (fun w' hs => has_any S n w' (dk_now h hs rfl rfl)) ?_
  rcases getF h.f.all n with ⟨h1, h2⟩ | ⟨f, v, h1, h2, h3⟩
  · have e1 : renameD S.D n m = (S.D, 5) := by unfold renameD; rw [h1]
    rw [e1, h2]
    intro bf
    refine sN 5 rfl rfl rfl ?_ (by kernel_rfl)
    refine ct rfl ?_
    exact ⟨fun w1 hs => TurnR.same h hs rfl rfl 5 rfl⟩
  · have h3' := fun w' hh => h3.same (v := w') hh
    obtain ⟨a, c, rfl, _⟩ := h3
    rw [Lib.byteCells_length] at h3' h2
    have hz := h.f.sz f (findF_mem h1).1
    have hzn : n.length ≤ 64 := by rw [← (findF_mem h1).2]; exact hz.2.2
    rw [h2]
    intro bf
    refine sN 5 rfl rfl rfl ?_ (by kernel_rfl)
    refine cf rfl ?_
    refine ld1 4 rfl rfl ?_
    refine cv (named_any m hm) ?_
    cases hnm : namedL m with
    | false =>
      have e1 : renameD S.D n m = (S.D, 5) := by unfold renameD; rw [h1]; exact if_pos hnm
      rw [e1]
      refine ct rfl ?_
      exact ⟨fun w1 hs => TurnR.same h hs rfl rfl 5 rfl⟩
    | true =>
    have e1 : renameD S.D n m = actD S.D (setF ⟨m, f.bs, f.bs.length⟩ (delF n S.D.files)) := by unfold renameD; rw [h1]; exact if_neg (by rw [hnm]; decide)
    rw [e1]
    refine cf rfl ?_
    refine ld1 2 rfl rfl ?_
    refine step_in 0 rfl rfl hst hl (fun h0 => ?_) (fun h0 => ?_)
    · exact ⟨fun w1 hs => TurnR.off h hs (setF ⟨m, f.bs, f.bs.length⟩ (delF n S.D.files)) h0 rfl rfl rfl⟩
    · refine inl (C := ⟨Tryz.prog, tab, 44, [bl S.bd, bl S.bm], w, none⟩) tab_ok Tryz.func121 rfl Tryz.ntmps121 rfl ?_
      refine dr [cl S.bd (dkC (stepD S.D).2 S.bm) TD, dead, cl b3 #[ptr S.bd] 37, cl b4 #[VS n] 9] 99 (.t 0 (.t 1 (.t 2 (.t 3 (.t 4 (.n 5 .nil)))))) tab_ok mixed_ok (by kernel_rfl) (.cons (.dead (.cons (.cons .nil)))) ?_
      refine ld1 2 rfl rfl ?_
      refine ld1 0 rfl (v := .map (some S.bm)) rfl ?_
      refine ld1 3 rfl rfl ?_
      refine dlt (ke := keS) (k := n) 1 rfl undM keyM ?_
      refine ⟨.cons (.dead (.cons (.cons .nil))), ?_⟩
      refine dr [cl S.bd (dkC (stepD S.D).2 S.bm) TD, me S.bm keS (delS n S.es) S.clk, cl b3 #[ptr S.bd] 37, cl b4 #[VS n] 9, cl b5 #[VS m] 9, cl bf #[.slice a f.bs.length c, .int .i64 f.sure] TF] 11 (.t 0 (.t 1 (.t 2 (.t 3 (.t 4 (.t 5 (.t 6 (.t 7 (.t 8 (.t 9 (.t 10 (.n 11 .nil)))))))))))) tab_ok mixed_ok (by kernel_rfl) (.cons (.cons (.cons (.cons (.cons (.cons (.nil))))))) ?_
      refine ld1 2 rfl rfl ?_
      refine ld1 0 rfl (v := .map (some S.bm)) rfl ?_
      refine ld1 4 rfl rfl ?_
      refine ld1 5 rfl (v := .slice a f.bs.length c) rfl ?_
      refine ld1 5 rfl (v := .slice a f.bs.length c) rfl ?_
      refine bu (c := #[.slice a f.bs.length c, .int .i64 f.bs.length]) (by kernel_rfl) ?_
      refine mup (ke := keS) (k := m) 1 rfl undM keyM ?_
      refine bk ?_
      exact ⟨fun w1 hs => TurnR.done h hs _ _ _ h0 rfl rfl (((h.f.same (dk_old h hs)).del n).set ⟨m, f.bs, f.bs.length⟩ _ (h3' w1 (dk_old h hs)) (Nat.le_refl _) hz.2.1 (namedL_len hnm)) rfl⟩
set_option maxRecDepth 100000 in
set_option maxHeartbeats 1000000 in
theorem cut_any (S : DkS) (n : List UInt8) (size : Int) (w : World) (h : DkP S w) (hst : S.D.steps ≤ 1000000) (hl : S.D.left ≤ 9223372036854775807) : Calls Tryz.prog 110 ([ptr S.bd, VS n, .int .i64 size] : List Value).toArray w (TurnR S w (cutD S.D n size).1 (cutD S.D n size).2) := by
  refine (enter tab_ok Tryz.func110 rfl Tryz.ntmps110 rfl (dk_rw h) (R := fun v w' => TurnR S w (cutD S.D n size).1 (cutD S.D n size).2 (.returned v) w') ?_).mono (fun e w' ⟨v, he, h⟩ => by rw [he]; exact h)
  intro b3 b4 b5
  refine ld1 2 rfl rfl ?_
  refine ld1 3 rfl rfl ?_
  refine cvs (fun w' hs => has_any S n w' (dk_now h hs rfl rfl)) ?_
  rcases getF h.f.all n with ⟨h1, h2⟩ | ⟨f, v, h1, h2, h3⟩
  · have e1 : cutD S.D n size = (S.D, 5) := by unfold cutD; rw [h1]
    rw [e1, h2]
    intro bf
    refine sN 5 rfl rfl rfl ?_ (by kernel_rfl)
    refine ct rfl ?_
    exact ⟨fun w1 hs => TurnR.same h hs rfl rfl 5 rfl⟩
  · have h3' := fun w' hh => h3.same (v := w') hh
    obtain ⟨a, c, rfl, _⟩ := h3
    rw [Lib.byteCells_length] at h3' h2
    have hz := h.f.sz f (findF_mem h1).1
    have hzn : n.length ≤ 64 := by rw [← (findF_mem h1).2]; exact hz.2.2
    rw [h2]
    intro bf
    refine sN 5 rfl rfl rfl ?_ (by kernel_rfl)
    refine cf rfl ?_
    have hc := fun w' hh => RdR.cut (k := size.toNat) (h3' w' hh)
    by_cases hbad : size < 0 ∨ (f.bs.length : Int) < size
    · have e1 : cutD S.D n size = (S.D, 2) := by unfold cutD; rw [h1]; exact if_pos hbad
      rw [e1]
      refine ld1 4 rfl rfl ?_
      by_cases h0 : size < 0
      · have f1 := decide_eq_true h0
        have f2 : (decide (size < 0) == false) = false := by rw [f1]; rfl
        iterate 5 refine cf f2 ?_
        refine ct f1 ?_
        refine ct rfl ?_
        exact ⟨fun w1 hs => TurnR.same h hs rfl rfl 2 rfl⟩
      · have f1 := decide_eq_false h0
        have f2 : (decide (size < 0) == false) = true := by rw [f1]; rfl
        refine ct f2 ?_
        refine ld1 4 rfl rfl ?_
        iterate 2 refine ct f2 ?_
        refine ld1 5 rfl (v := .slice a f.bs.length c) rfl ?_
        iterate 2 refine ct f2 ?_
        refine cf f1 ?_
        refine ct (decide_eq_true (by omega)) ?_
        exact ⟨fun w1 hs => TurnR.same h hs rfl rfl 2 rfl⟩
    · have e1 : cutD S.D n size = actD S.D (setF ⟨n, f.bs.take size.toNat, min f.sure size.toNat⟩ S.D.files) := by unfold cutD; rw [h1]; exact if_neg hbad
      obtain ⟨k, rfl⟩ : ∃ k : Nat, size = k := ⟨size.toNat, by omega⟩
      rw [Int.toNat_natCast] at e1 hc
      rw [e1]
      have f1 := decide_eq_false (show ¬ (k : Int) < 0 by omega)
      have f2 : (decide ((k : Int) < 0) == false) = true := by rw [f1]; rfl
      refine ld1 4 rfl rfl ?_
      refine ct f2 ?_
      refine ld1 4 rfl rfl ?_
      iterate 2 refine ct f2 ?_
      refine ld1 5 rfl (v := .slice a f.bs.length c) rfl ?_
      iterate 2 refine ct f2 ?_
      refine cf f1 ?_
      refine cf (decide_eq_false (by omega)) ?_
      obtain ⟨_, _, hcc, _, hspot, _⟩ := hc w (fun _ _ => rfl) (by omega)
      refine ld1 2 rfl rfl ?_
      refine step_in 0 rfl rfl hst hl (fun h0 => ?_) (fun h0 => ?_)
      · exact ⟨fun w1 hs => TurnR.off h hs (setF ⟨n, f.bs.take k, min f.sure k⟩ S.D.files) h0 rfl rfl rfl⟩
      · refine inl (C := ⟨Tryz.prog, tab, 44, [bl S.bd, bl S.bm], w, none⟩) tab_ok Tryz.func130 rfl Tryz.ntmps130 rfl ?_
        refine dr [cl S.bd (dkC (stepD S.D).2 S.bm) TD, me S.bm keS S.es S.clk, cl b3 #[ptr S.bd] 37, cl b4 #[VS n] 9, cl b5 #[.int .i64 k] 3, cl bf #[.slice a f.bs.length c, .int .i64 f.sure] TF] 15 (.t 0 (.t 1 (.t 2 (.t 3 (.t 4 (.t 5 (.t 6 (.t 7 (.t 8 (.t 9 (.t 10 (.t 11 (.t 12 (.n 13 (.t 14 (.n 15 .nil)))))))))))))))) tab_ok mixed_ok (by kernel_rfl) (.cons (.cons (.cons (.cons (.cons (.cons (.nil))))))) ?_
        refine ld1 2 rfl rfl ?_
        refine ld1 0 rfl (v := .map (some S.bm)) rfl ?_
        refine ld1 3 rfl rfl ?_
        refine ld1 5 rfl (v := .slice a f.bs.length c) rfl ?_
        refine ld1 4 rfl rfl ?_
        refine ld1 4 rfl rfl ?_
        refine slCap hspot (by omega) ?_
        refine ld1 5 rfl (v := .int .i64 f.sure) rfl ?_
        refine ld1 4 rfl rfl ?_
        refine biMin ?_
        refine ⟨.cons (.cons (.cons (.cons (.cons (.cons (.nil)))))), ?_⟩
        refine bu (c := #[.slice a k k, .int .i64 (min (f.sure : Int) k)]) (by kernel_rfl) ?_
        refine mup (ke := keS) (k := n) 1 rfl undM keyM ?_
        refine bk ?_
        have em : min (f.sure : Int) (k : Int) = ((min f.sure k : Nat) : Int) := by omega
        rw [em]
        exact ⟨fun w1 hs => TurnR.done h hs _ _ _ h0 rfl rfl ((h.f.same (dk_old h hs)).set ⟨n, f.bs.take k, min f.sure k⟩ _ (hc w1 (dk_old h hs) (by omega)).1 (by simp only [List.length_take]; omega) (by simp only [List.length_take]; omega) hzn) rfl⟩
end Go.Proofs.YteamnhpplclmfaaGreatDoor
end
section
namespace Go.Proofs.YteamnhpplclmfaaGreatDoor
open Go.RowKit Go.Sx
set_option linter.unusedVariables false

theorem permMore {τ : Type} (b : τ → Nat) {es i rest : List τ} {e : τ} (hp : (i ++ rest).Perm es) (he : e ∈ es) (hn : b e ∉ i.map b) : ∃ rest', (i ++ [e] ++ rest').Perm es := by
  have h1 : e ∈ i ++ rest := hp.mem_iff.2 he
  rcases List.mem_append.1 h1 with h | h
  · exact absurd (List.mem_map_of_mem h) hn
  · obtain ⟨l1, l2, rfl⟩ := List.append_of_mem h
    refine ⟨l1 ++ l2, List.Perm.trans ?_ hp⟩
    rw [List.append_assoc]
    exact (List.perm_middle (a := e) (l₁ := l1) (l₂ := l2)).symm.append_left i
def crashF (keep : Int) (f : Fe) : Fe := ⟨f.name, f.bs.take (f.sure + min keep.toNat (f.bs.length - f.sure)), f.sure + min keep.toNat (f.bs.length - f.sure)⟩
def crashD (D : Dk) (keep : Int) : Dk := { D with gone := false, armed := false, files := D.files.map (crashF keep) }
/-- those that were visited are crashed -/
def crashV (keep : Int) (vs : List (List UInt8 × Nat)) (f : Fe) : Fe := if f.name ∈ vs.map (·.1) then crashF keep f else f
theorem crashV_name (keep : Int) (vs : List (List UInt8 × Nat)) (f : Fe) : (crashV keep vs f).name = f.name := by unfold crashV; split <;> rfl
theorem setF_map {keep : Int} {vs : List (List UInt8 × Nat)} {fs : List Fe} {f : Fe} {n : Nat} (hf : f ∈ fs) (hn : (fs.map (·.name)).Nodup) (hv : f.name ∉ vs.map (·.1)) :
    setF (crashF keep f) (fs.map (crashV keep vs)) = fs.map (crashV keep (vs ++ [(f.name, n)])) := by
  have other : ∀ g : Fe, g.name ≠ f.name → crashV keep (vs ++ [(f.name, n)]) g = crashV keep vs g := fun g hg => by
    have : g.name ∈ (vs ++ [(f.name, n)]).map (·.1) ↔ g.name ∈ vs.map (·.1) := by rw [List.map_append, List.mem_append]; simp [hg]
    simp only [crashV, this]
  have own : crashV keep (vs ++ [(f.name, n)]) f = crashF keep f := by simp [crashV]
  induction fs with
  | nil => cases hf
  | cons g l ih =>
    simp only [List.map_cons, List.nodup_cons] at hn
    rw [List.map_cons]
    show (if (crashF keep f).name = (crashV keep vs g).name then crashF keep f :: l.map (crashV keep vs) else crashV keep vs g :: setF (crashF keep f) (l.map (crashV keep vs))) = _
    rw [crashV_name]
    by_cases h : f.name = g.name
    · have hl : ∀ k ∈ l, k.name ≠ f.name := fun k hk e => hn.1 (by rw [← h, ← e]; exact List.mem_map_of_mem hk)
      have hfg : f = g := by
        rcases List.mem_cons.1 hf with h1 | h1
        · exact h1
        · exact absurd rfl (hl f h1)
      subst hfg
      rw [if_pos (show (crashF keep f).name = f.name from rfl), List.map_cons, own]
      congr 1
      exact List.map_congr_left fun k hk => (other k (hl k hk)).symm
    · have hf' : f ∈ l := by
        rcases List.mem_cons.1 hf with h1 | h1
        · exact absurd (by rw [h1]) h
        · exact h1
      rw [if_neg (show ¬ (crashF keep f).name = g.name from h), List.map_cons, ih hf' hn.2, other g (fun e => h e.symm)]
theorem setS_kb {κ : Type} [DecidableEq κ] (k : κ) (v : Value) (clk : Nat) (es : Es κ) (h : (getS k es).isSome = true) : (setS k v clk es).map (fun e => (e.1, e.2.2)) = es.map (fun e => (e.1, e.2.2)) := by
  induction es with
  | nil => cases h
  | cons e l ih =>
    rw [getS_cons] at h
    unfold setS
    by_cases hk : k = e.1
    · simp [hk]
    · rw [if_neg hk] at h
      simp [hk, ih h]
theorem getS_of_mem {κ : Type} [DecidableEq κ] {es : Es κ} {e : κ × Value × Nat} (he : e ∈ es) (hn : (es.map (·.1)).Nodup) : getS e.1 es = some e.2.1 := by
  induction es with
  | nil => cases he
  | cons f l ih =>
    simp only [List.map_cons, List.nodup_cons] at hn
    rw [getS_cons]
    rcases List.mem_cons.1 he with rfl | h
    · rw [if_pos rfl]
    · rw [if_neg (fun e1 : e.1 = f.1 => hn.1 (e1 ▸ List.mem_map_of_mem (f := fun q : κ × Value × Nat => q.1) h)), ih h hn.2]
theorem all2_names {rr : Nat → Prop} {u : World} {es : Es (List UInt8)} {fs : List Fe} (h : All2 (EF rr u) es fs) : es.map (·.1) = fs.map (·.name) := by
  induction h with
  | nil => rfl
  | cons h1 _ ih => simp only [List.map_cons, ih, h1.1]
set_option maxRecDepth 100000 in
set_option maxHeartbeats 1000000 in
theorem crash_any (S : DkS) (keep : Int) (hkeep : -9223372036854775808 ≤ keep ∧ keep ≤ 9223372036854775807) (w : World) (h : DkP S w) : Calls Tryz.prog 34 ([ptr S.bd, .int .i64 keep] : List Value).toArray w fun e w' => ∃ S' : DkS, (S'.D = crashD S.D keep ∧ S'.bd = S.bd ∧ S'.bm = S.bm) ∧ e = .returned (.tuple #[]) ∧ Turns w w' (dkR S) (dkR S') := by
  refine (enter tab_ok Tryz.func34 rfl Tryz.ntmps34 rfl (dk_rw h) (R := fun v w' => ∃ S' : DkS, (S'.D = crashD S.D keep ∧ S'.bd = S.bd ∧ S'.bm = S.bm) ∧ v = .tuple #[] ∧ Turns w w' (dkR S) (dkR S')) ?_).mono (fun e w' ⟨v, he, S', h1, h2, h3⟩ => ⟨S', h1, by rw [he, h2], h3⟩)
  refine cf rfl ?_
  refine ld1 0 rfl (v := .map (some S.bm)) rfl ?_
  refine rng 1 rfl undM (fun it => ?_)
  obtain ⟨P0, hP0⟩ : ∃ P0, P0 = S.es.map fun e => (e.1, e.2.2) := ⟨_, rfl⟩
  have hfn := all2_names h.f.all
  have hb0 : P0.map (·.2) = S.es.map (·.2.2) := by rw [hP0, List.map_map]; rfl
  have hn0 : P0.map (·.1) = S.D.files.map (·.name) := by rw [hP0, List.map_map, ← hfn]; rfl
  refine lp tab_ok (fun x : List (List UInt8 × Nat) × Es (List UInt8) => (∃ rest, (x.1 ++ rest).Perm P0) ∧ x.2.map (fun e => (e.1, e.2.2)) = P0 ∧ FilesOk S.rr w x.2 S.clk (S.D.files.map (crashV keep x.1)))
    (fun x => ⟨[(0, ptr S.bd), (1, .int .i64 keep), (13, ptr it)], [cl S.bd (dkC S.D S.bm) TD, me S.bm keS x.2 S.clk, itE it S.bm S.clk (x.1.map (·.2))], []⟩) (fun x => P0.length - x.1.length) ([], S.es)
    ⟨⟨P0, by simp⟩, hP0.symm, by have : crashV keep [] = id := by funext f; simp [crashV]
                                 rw [this, List.map_id]; exact h.f⟩ ⟨⟨rfl, rfl, rfl, trivial⟩, .cons (.cons (.cons .nil)), rfl⟩ ?_
  rintro ⟨vs, es⟩ ⟨⟨rest, hp⟩, hkb, hF⟩
  simp only at hp hkb hF
  have hborn : es.map (·.2.2) = P0.map (·.2) := by rw [← hkb, List.map_map]; rfl
  have hkeys : es.map (·.1) = P0.map (·.1) := by rw [← hkb, List.map_map]; rfl
  have hnbP : (P0.map (·.2)).Nodup := by rw [hb0]; exact h.f.nb
  have hnnP : (P0.map (·.1)).Nodup := by rw [hn0]; exact h.f.nn
  have hmemP : ∀ e ∈ es, (e.1, e.2.2) ∈ P0 := fun e he => by rw [← hkb]; exact List.mem_map_of_mem (f := fun e : List UInt8 × Value × Nat => (e.1, e.2.2)) he
  refine nxt 1 2 rfl rfl hF.lt (fun hall => ?_) (fun e he hnv => ?_)
  · refine cf rfl ?_
    refine s1 0 rfl (show 3 < 6 by decide) ?_
    refine s1 0 rfl (show 2 < 6 by decide) ?_
    have hfin : S.D.files.map (crashV keep vs) = S.D.files.map (crashF keep) := by
      refine List.map_congr_left fun f hf => ?_
      have h1 : f.name ∈ P0.map (·.1) := by rw [hn0]; exact List.mem_map_of_mem hf
      rw [← hkeys] at h1
      obtain ⟨e, he, h2⟩ := List.mem_map.1 h1
      have h3 := hall e he
      have h4 := hmemP e he
      have h5 : (e.1, e.2.2) ∈ vs := by
        obtain ⟨q, hq, h6⟩ := List.mem_map.1 h3
        have h7 : q ∈ P0 := hp.mem_iff.1 (by simp [hq])
        have h8 : q = (e.1, e.2.2) := by
          obtain ⟨i, hi, rfl⟩ := List.mem_iff_getElem.1 h7
          obtain ⟨j, hj, h9⟩ := List.mem_iff_getElem.1 h4
          have := (List.getElem_inj (h₀ := by simpa using hi) (h₁ := by simpa using hj) hnbP).1 (by simp [h6, h9])
          subst this
          exact h9
        exact h8 ▸ hq
      unfold crashV
      rw [if_pos]
      exact h2 ▸ List.mem_map_of_mem (f := fun q : List UInt8 × Nat => q.1) h5
    refine ⟨fun w1 hs => ⟨⟨crashD S.D keep, S.bd, S.bm, S.rr, es, S.clk⟩, ⟨rfl, rfl, rfl⟩, rfl, ?_⟩⟩
    refine turn_files h hs _ _ _ _ rfl rfl ?_ (fun k hk => .inl hk)
    show FilesOk S.rr w1 es S.clk (S.D.files.map (crashF keep))
    rw [← hfin]
    exact hF.same (dk_old h hs)
  · refine ct rfl ?_
    refine ent (ke := keS) (e := e) 1 2 rfl rfl he hF.nb ?_
    obtain ⟨f', hf', hnm, v, hve, hRd⟩ := hF.all.memL he
    obtain ⟨f, hf, rfl⟩ := List.mem_map.1 hf'
    rw [crashV_name] at hnm
    have hnv2 : f.name ∉ vs.map (·.1) := by
      intro hc
      obtain ⟨q, hq, h1⟩ := List.mem_map.1 hc
      have h7 : q ∈ P0 := hp.mem_iff.1 (by simp [hq])
      have h4 := hmemP e he
      have h8 : q = (e.1, e.2.2) := by
        obtain ⟨i, hi, rfl⟩ := List.mem_iff_getElem.1 h7
        obtain ⟨j, hj, h9⟩ := List.mem_iff_getElem.1 h4
        have := (List.getElem_inj (h₀ := by simpa using hi) (h₁ := by simpa using hj) hnnP).1 (by simp only [List.getElem_map]; rw [h1, h9, ← hnm])
        subst this
        exact h9
      exact hnv (by rw [show e.2.2 = q.2 by rw [h8]]; exact List.mem_map_of_mem hq)
    have hcf : crashV keep vs f = f := if_neg hnv2
    rw [hcf] at hve hRd
    have hz := h.f.sz f hf
    obtain ⟨rest', hp'⟩ := permMore (fun q : List UInt8 × Nat => q.2) hp (hmemP e he) hnv
    have hlen : (vs ++ [(e.1, e.2.2)]).length ≤ P0.length := by have := hp'.length_eq; simp at this ⊢; omega
    obtain ⟨nn, hnn⟩ : ∃ nn, nn = f.sure + min keep.toNat (f.bs.length - f.sure) := ⟨_, rfl⟩
    obtain ⟨a, c, hvv, _⟩ := id hRd
    subst hvv
    have hcut := RdR.cut (k := nn) hRd (by omega)
    rw [Lib.byteCells_length] at hve hcut
    obtain ⟨hcut, _, hcc, _, hspot, _⟩ := hcut
    have hget := getS_of_mem he (by rw [hkeys]; exact hnnP)
    rw [hve, hnm]
    intro b5
    refine sN 3 rfl rfl rfl ?_ (by kernel_rfl)
    refine ld1 3 rfl (v := .int .i64 f.sure) rfl ?_
    refine biMax ?_
    refine ld1 3 rfl (v := .slice a f.bs.length c) rfl ?_
    refine ld1 3 rfl (v := .int .i64 f.sure) rfl ?_
    refine .as ((f.bs.length - f.sure : Nat) : Int) (by omega) (by simp only [mn]; omega) (by simp only [mx]; omega) ?_
    refine biMin ?_
    refine .as (nn : Int) (by omega) (by simp only [mn]; omega) (by simp only [mx]; omega) ?_
    refine dr [cl S.bd (dkC S.D S.bm) TD, me S.bm keS es S.clk, itE it S.bm S.clk (vs.map (·.2) ++ [e.2.2]), cl b5 #[.slice a f.bs.length c, .int .i64 f.sure] TF] 12 (.t 0 (.t 1 (.t 2 (.t 3 (.t 4 (.t 5 (.t 6 (.t 7 (.t 8 (.t 9 (.t 10 (.t 11 (.n 12 .nil))))))))))))) tab_ok mixed_ok (by kernel_rfl) (.cons (.cons (.cons (.cons (.nil))))) ?_
    refine ld1 0 rfl (v := .map (some S.bm)) rfl ?_
    refine ld1 3 rfl (v := .slice a f.bs.length c) rfl ?_
    refine slCap hspot (by omega) ?_
    refine bu (c := #[.slice a nn nn, .int .i64 nn]) (by kernel_rfl) ?_
    refine mup (ke := keS) (k := f.name) 1 rfl undM keyM ?_
    have hclk : clkS f.name es S.clk = S.clk := by unfold clkS; rw [← hnm, hget]; rfl
    rw [hclk]
    have hFn := hF.set (crashF keep f) (.slice a nn nn) (by rw [crashF, ← hnn]; exact hcut) (by rw [crashF, ← hnn]; simp only [List.length_take]; omega) (by simp only [crashF, List.length_take]; omega) hz.2.2
    rw [setF_map (n := e.2.2) hf h.f.nn hnv2] at hFn
    have e7 : (crashF keep f).name = f.name := rfl
    have e8 : (crashF keep f).sure = nn := by rw [hnn]; rfl
    rw [e7, e8, hclk] at hFn
    refine ⟨(vs ++ [(f.name, e.2.2)], setS f.name (.agg #[.slice a nn nn, .int .i64 nn]) S.clk es), ⟨⟨rest', by rw [← hnm]; exact hp'⟩, ?_, hFn⟩, by simp at hlen ⊢; omega, ⟨⟨rfl, rfl, rfl, trivial⟩, ?_, rfl⟩⟩
    · rw [setS_kb _ _ _ _ (by rw [← hnm, hget]; rfl)]; exact hkb
    · simp only [List.map_append, List.map_cons, List.map_nil]
      exact .cons (.cons (.cons .nil))
end Go.Proofs.YteamnhpplclmfaaGreatDoor
end
section
namespace Go.Proofs.YteamnhpplclmfaaGreatDoor
open Go.RowKit Go.Sx
set_option linter.unusedVariables false
abbrev Bs := List UInt8
/-- four bits through the register -/
def halfN (x : Nat) : Nat := if x % 2 = 1 then (x / 2) ^^^ 3988292384 else x / 2
def tabN (i : Nat) : Nat := halfN (halfN (halfN (halfN i)))
def nibN (x : Nat) : Nat := (x / 16) ^^^ tabN (x % 16)
/-- a byte through the register -/
def byteN (x : Nat) (c : UInt8) : Nat := nibN (nibN (x ^^^ c.toNat) ^^^ (c.toNat / 16))
def byteN2 (x : Nat) (c : UInt8) : Nat := let x1 := (x / 16) ^^^ tabN ((x ^^^ c.toNat) % 16); (x1 / 16) ^^^ tabN ((x1 ^^^ (c.toNat / 16)) % 16)
def moreN (s : Nat) (l : Bs) : Nat := 4294967295 ^^^ l.foldl byteN2 (4294967295 ^^^ s)
def crcP (ps : List Bs) : Nat := ps.foldl moreN 0
/-- four bytes, the lowest first -/
def le4 (n : Nat) : Bs := [UInt8.ofNat (n % 256), UInt8.ofNat (n / 256 % 256), UInt8.ofNat (n / 65536 % 256), UInt8.ofNat (n / 16777216 % 256)]
def unle (l : Bs) : Nat := l.foldr (fun c n => c.toNat + 256 * n) 0
/-- a payload's record -/
def recP (p : Bs) : Bs := le4 p.length ++ (le4 (crcP [le4 p.length, p]) ++ p)
/-- the payload of the record that bytes begin with -/
def firstP (row : Bs) : Option Bs :=
  if row.length < 8 then none
  else if 65536 < unle (row.take 4) ∨ row.length - 8 < unle (row.take 4) then none
  else if unle ((row.drop 4).take 4) = crcP [row.take 4, (row.drop 8).take (unle (row.take 4))] then some ((row.drop 8).take (unle (row.take 4))) else none
def recsF : Nat → Bs → List Bs
  | 0, _ => []
  | n + 1, row => match firstP row with
    | none => []
    | some p => p :: recsF n (row.drop (8 + p.length))
/-- the payloads of the records that bytes begin with -/
def recsP (row : Bs) : List Bs := recsF row.length row
def wholeL (ps : List Bs) : Nat := (ps.map fun p => 8 + p.length).sum
/-- how far bytes are whole -/
def wholeP (row : Bs) : Nat := wholeL (recsP row)
theorem first_len {row p : Bs} (h : firstP row = some p) : 8 + p.length ≤ row.length ∧ p.length ≤ 65536 ∧ p.length = unle (row.take 4) ∧ p = (row.drop 8).take p.length := by
  unfold firstP at h
  split at h
  · cases h
  · split at h
    · cases h
    · split at h
      · obtain rfl := Option.some.inj h
        have : ((row.drop 8).take (unle (row.take 4))).length = unle (row.take 4) := by rw [List.length_take, List.length_drop]; omega
        rw [this]
        exact ⟨by omega, by omega, rfl, rfl⟩
      · cases h
theorem recsF_fuel : ∀ (n m : Nat) (row : Bs), row.length ≤ n → row.length ≤ m → recsF n row = recsF m row := by
  have nil : ∀ m (row : Bs), row.length = 0 → recsF m row = [] := fun m row h => by
    cases m with
    | zero => rfl
    | succ m =>
      rw [recsF]
      cases hf : firstP row with
      | none => rfl
      | some p => have := (first_len hf).1; omega
  intro n
  induction n with
  | zero => intro m row h1 h2; rw [nil _ _ (by omega), nil _ _ (by omega)]
  | succ n ih =>
    intro m row h1 h2
    cases m with
    | zero => rw [nil _ _ (by omega), nil _ _ (by omega)]
    | succ m =>
      rw [recsF, recsF]
      cases hf : firstP row with
      | none => rfl
      | some p =>
        have := (first_len hf).1
        dsimp only
        rw [ih m _ (by rw [List.length_drop]; omega) (by rw [List.length_drop]; omega)]
theorem recs_none {row : Bs} (h : firstP row = none) : recsP row = [] := by
  unfold recsP
  cases row.length with
  | zero => rfl
  | succ n => rw [recsF, h]
theorem recs_some {row p : Bs} (h : firstP row = some p) : recsP row = p :: recsP (row.drop (8 + p.length)) := by
  have hl := first_len h
  unfold recsP
  obtain ⟨n, hn⟩ : ∃ n, row.length = n + 1 := ⟨row.length - 1, by omega⟩
  rw [hn, recsF, h]
  dsimp only
  rw [recsF_fuel n _ _ (by rw [List.length_drop]; omega) (Nat.le_refl _)]
/-- the records from one on: where they begin -/
theorem whole_cons (p : Bs) (ps : List Bs) : wholeL (p :: ps) = 8 + p.length + wholeL ps := by simp [wholeL]
/-- a segment's file -/
def fig8 (n : Nat) : Bs := [UInt8.ofNat (48 + n / 10000000 % 10), UInt8.ofNat (48 + n / 1000000 % 10), UInt8.ofNat (48 + n / 100000 % 10), UInt8.ofNat (48 + n / 10000 % 10), UInt8.ofNat (48 + n / 1000 % 10), UInt8.ofNat (48 + n / 100 % 10), UInt8.ofNat (48 + n / 10 % 10), UInt8.ofNat (48 + n % 10)]
def nameS (n : Nat) : Bs := [115, 101, 103, 45] ++ fig8 n
def manB : Bs := [109, 97, 110, 105, 102, 101, 115, 116]
def newB : Bs := [109, 97, 110, 105, 102, 101, 115, 116, 46, 110, 101, 119]
/-- the last segment that a manifest tells -/
def toldP (b : Bs) : Nat := match recsP b with
  | [] => 0
  | p :: _ => if p.length = 4 ∧ b.length = 12 ∧ 1 ≤ unle p ∧ unle p ≤ 1048576 then unle p else 0
/-- a store, but for its disk -/
structure Sr where
  size : Nat
  pl : List Bs
  sure : Nat
  last : Nat
  length : Nat
  stuck : Nat
def thenD (x : Dk × Nat) (f : Dk → Dk × Nat) : Dk × Nat := if x.2 = 0 then f x.1 else x
def hasD (D : Dk) (n : Bs) : Bool := (findF n D.files).isSome
/-- a segment begins -/
def nextD (D : Dk) (last : Nat) : Dk × Nat := thenD (thenD (thenD (syncD D (nameS last)) fun D => appendD D newB (recP (le4 (last + 1)))) fun D => syncD D newB) fun D => renameD D newB manB
def begP (size length record : Nat) : Bool := decide (0 < length) && decide (size < length + record)
/-- the disk, the last segment, its length -/
structure Pt where
  D : Dk
  last : Nat
  length : Nat
def goD (size : Nat) (x : Pt) (p : Bs) : Pt × Nat :=
  if begP size x.length (8 + p.length) = true then (if (nextD x.D x.last).2 = 0 then (⟨(nextD x.D x.last).1, x.last + 1, 0⟩, 0) else (⟨(nextD x.D x.last).1, x.last, x.length⟩, (nextD x.D x.last).2)) else (x, 0)
def putD (size : Nat) (x : Pt) (p : Bs) : Pt × Nat :=
  if (goD size x p).2 = 0 then
    (⟨(appendD (goD size x p).1.D (nameS (goD size x p).1.last) (recP p)).1, (goD size x p).1.last, (goD size x p).1.length + (8 + p.length)⟩, (appendD (goD size x p).1.D (nameS (goD size x p).1.last) (recP p)).2)
  else goD size x p
def putsD (size : Nat) : Pt → List Bs → Pt × Nat
  | x, [] => (x, 0)
  | x, p :: ps => if (putD size x p).2 = 0 then putsD size (putD size x p).1 ps else putD size x p
/-- what payloads need: the bytes, the length then, whether a segment begins -/
def needF (size : Nat) : Nat × Nat × Bool → List Bs → Nat × Nat × Bool
  | x, [] => x
  | (n, len, beg), p :: ps => if begP size len (8 + p.length) = true then needF size (n + (8 + p.length), 8 + p.length, true) ps else needF size (n + (8 + p.length), len + (8 + p.length), beg) ps
def needP (S : Sr) (ps : List Bs) : Nat := if (needF S.size (0, S.length, false) ps).2.2 then (needF S.size (0, S.length, false) ps).1 + 24 else (needF S.size (0, S.length, false) ps).1
structure Sd where
  S : Sr
  D : Dk
def appendS (x : Sd) (ps : List Bs) : Sd × Nat :=
  if x.S.stuck ≠ 0 then (x, x.S.stuck)
  else if ps.any (fun p => decide (65536 < p.length)) = true then (x, 10)
  else if (x.D.quota : Int) - usedD x.D.files < needP x.S ps then (⟨{ x.S with stuck := 3 }, x.D⟩, 3)
  else if x.D.gone = true then (⟨{ x.S with stuck := 4 }, x.D⟩, 4)
  else if (putsD x.S.size ⟨x.D, x.S.last, x.S.length⟩ ps).2 = 0 then
    (⟨{ x.S with pl := x.S.pl ++ ps, last := (putsD x.S.size ⟨x.D, x.S.last, x.S.length⟩ ps).1.last, length := (putsD x.S.size ⟨x.D, x.S.last, x.S.length⟩ ps).1.length }, (putsD x.S.size ⟨x.D, x.S.last, x.S.length⟩ ps).1.D⟩, 0)
  else (⟨{ x.S with stuck := (putsD x.S.size ⟨x.D, x.S.last, x.S.length⟩ ps).2 }, (putsD x.S.size ⟨x.D, x.S.last, x.S.length⟩ ps).1.D⟩, (putsD x.S.size ⟨x.D, x.S.last, x.S.length⟩ ps).2)
def syncS (x : Sd) : Sd × Nat :=
  if x.S.stuck ≠ 0 then (x, x.S.stuck)
  else if x.D.gone = true then (⟨{ x.S with stuck := 4 }, x.D⟩, 4)
  else if hasD x.D (nameS x.S.last) = true then
    (if (syncD x.D (nameS x.S.last)).2 = 0 then (⟨{ x.S with sure := x.S.pl.length }, (syncD x.D (nameS x.S.last)).1⟩, 0) else (⟨{ x.S with stuck := (syncD x.D (nameS x.S.last)).2 }, (syncD x.D (nameS x.S.last)).1⟩, (syncD x.D (nameS x.S.last)).2))
  else (⟨{ x.S with sure := x.S.pl.length }, x.D⟩, 0)
/-- a segment is read: the disk, the payloads, the length of the last one -/
structure Ld where
  D : Dk
  pl : List Bs
  length : Nat
def loadD (x : Ld) (last n : Nat) : Ld × Nat := match findF (nameS n) x.D.files with
  | none => (x, if n < last then 6 else 0)
  | some f =>
    if x.D.gone = true then (x, 4)
    else if n < last then (if wholeP f.bs < f.bs.length then (x, 6) else (⟨x.D, x.pl ++ recsP f.bs, x.length⟩, 0))
    else (⟨(thenD (if wholeP f.bs < f.bs.length then cutD x.D (nameS n) (wholeP f.bs : Nat) else (x.D, 0)) fun D => syncD D (nameS n)).1, x.pl ++ recsP f.bs, wholeP f.bs⟩, (thenD (if wholeP f.bs < f.bs.length then cutD x.D (nameS n) (wholeP f.bs : Nat) else (x.D, 0)) fun D => syncD D (nameS n)).2)
/-- the segments from n on; k: how many there are at most -/
def loadsD : Nat → Ld → Nat → Nat → Ld × Nat
  | 0, x, _, _ => (x, 0)
  | k + 1, x, last, n => if (loadD x last n).2 = 0 then loadsD k (loadD x last n).1 last (n + 1) else loadD x last n
def dropsD (bound : Bs) : Dk × Nat → List Bs → Dk × Nat
  | x, [] => x
  | x, f :: fs => dropsD bound (if List.isPrefixOf [115, 101, 103, 45] f && decide (bound < f) then thenD x fun D => dropD D f else x) fs
end Go.Proofs.YteamnhpplclmfaaGreatDoor
end
