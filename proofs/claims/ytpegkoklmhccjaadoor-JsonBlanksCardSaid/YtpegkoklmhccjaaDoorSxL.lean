/- Symbolic steps, twelfth part: ranges over functions. -/
import Derived.Test.YtpegkoklmhccjaaDoorSxM
import Derived.RangeFuncBound
import Derived.RangeFuncRecord
namespace Go.Sx
open Go Go.RowKit
set_option linter.unusedVariables false

def Res.A (r : Res) (k : Nat) : Prop := r.w k ∨ r.r k
/-- a function that is ranged over: its states, its rounds, its ends, what it reads -/
structure Itr (P : Program) (g : FuncId) (lb : List Value) {I : Type} (i0 : I) (nx : I → List Value → I → Prop) (fin : I → Prop) (H : Res) : Prop where
  go : ∀ (l : Nat) (α β : Type) (R : I → α → Res) (S : β → Res) (W : World) (x0 : α), (R i0 x0).p W → H.p W → (∀ k, H.A k → ¬ (R i0 x0).w k) →
    (∀ i args j x w, nx i args j → (R i x).p w → ∀ m, YieldAt Fence.wide m P l args.toArray w fun e w' => (e = .returned (.bool true) ∧ ∃ y, Turns w w' (R i x) (R j y)) ∨ (e = .returned (.bool false) ∧ ∃ y, Turns w w' (R i x) (S y))) →
    Calls P g (.func (.yield l) #[] #[] :: lb).toArray W fun e W' => (∃ v, e = .returned v) ∧ ((∃ i y, fin i ∧ Turns W W' (R i0 x0) (R i y)) ∨ ∃ y, Turns W W' (R i0 x0) (S y))
/-- a round is asked for -/
theorem yd {C : Cx} {L : List Ent} {l : Nat} {args : List Value} {I α β : Type} {R : I → α → Res} {S : β → Res} {nx : I → List Value → I → Prop} (k : Nat) {i j : I} {x : α} {next : Value → List Ent → Prop} (hk : L[k]? = some (rs (R i x)))
    (hr : ∀ i args j x w, nx i args j → (R i x).p w → ∀ m, YieldAt Fence.wide m C.P l args.toArray w fun e w' => (e = .returned (.bool true) ∧ ∃ y, Turns w w' (R i x) (R j y)) ∨ (e = .returned (.bool false) ∧ ∃ y, Turns w w' (R i x) (S y)))
    (hn : nx i args j) (g1 : ∀ y, (∀ b, (R j y).A b → (R i x).A b ∨ C.B.heap.size ≤ b) → next (.bool true) (L.set k (rs (R j y)))) (g0 : ∀ y, (∀ b, (S y).A b → (R i x).A b ∨ C.B.heap.size ≤ b) → next (.bool false) (L.set k (rs (S y)))) : YieldP C l args L next := by
  refine ⟨fun w hs m => YieldAt.mono (hr i args j x w hn (hs.res hk) m) fun e w' h => ?_⟩
  have hsz := hs.size
  rcases h with ⟨he, y, ht⟩ | ⟨he, y, ht⟩
  · exact ⟨_, _, he, hs.turn hk ht, g1 y fun b hb => (ht.A b hb).imp id fun h => Nat.le_trans hsz h⟩
  · exact ⟨_, _, he, hs.turn hk ht, g0 y fun b hb => (ht.A b hb).imp id fun h => Nat.le_trans hsz h⟩

def Res.rd (r : Res) : Res := ⟨fun _ => False, fun k => r.w k ∨ r.r k, r.p, fun u v h => r.st u v fun k hk => h k (.inr hk), fun u h k hk => r.bd u h k (by rcases hk with hk | hk; exact hk.elim; exact hk)⟩
/-- an entry that is only read -/
def Ent.rd (e : Ent) : Ent := ⟨e.b, e.o, true, e.q.map Res.rd⟩
theorem Ent.rdW (e : Ent) (k : Nat) : ¬ e.rd.W k := by
  rintro (⟨_, h, _⟩ | ⟨r, h, hr⟩)
  · cases h
  · simp only [Ent.rd, Option.map_eq_some_iff] at h
    obtain ⟨r', _, rfl⟩ := h
    exact hr
theorem Ent.rdA (e : Ent) (k : Nat) : e.rd.A k ↔ e.A k := by
  unfold Ent.A Ent.rd
  constructor
  · rintro (h | ⟨r, h, hr⟩)
    · exact .inl h
    · simp only [Option.map_eq_some_iff] at h
      obtain ⟨r', h1, rfl⟩ := h
      exact .inr ⟨r', h1, by rcases hr with hr | hr; exact hr.elim; exact hr⟩
  · rintro (h | ⟨r, h, hr⟩)
    · exact .inl h
    · exact .inr ⟨r.rd, by rw [h]; rfl, .inr hr⟩
theorem Ent.rdOk (e : Ent) (w : World) : e.rd.Ok w ↔ e.Ok w := by
  unfold Ent.Ok Ent.rd
  constructor
  · rintro ⟨h1, h2⟩
    exact ⟨h1, fun r hr => h2 r.rd (by rw [hr]; rfl)⟩
  · rintro ⟨h1, h2⟩
    refine ⟨h1, fun r hr => ?_⟩
    simp only [Option.map_eq_some_iff] at hr
    obtain ⟨r', h3, rfl⟩ := hr
    exact h2 r' h3
/-- what a round may count on -/
structure BothP (e0 e : Ent) (l : Nat) (o : Obj) (F : List Ent) (u : World) : Prop where
  ok : e.Ok u
  lp : u.heap[l]? = some o
  fr : ∀ f ∈ F, f.Ok u
  ap : ∀ f ∈ F, Apart e f
  fl : ∀ f ∈ F, ¬ f.A l
  el : ¬ e.A l
  e0 : ∀ k, e.A k → e0.A k ∨ l < k
/-- an entry and entries that are only read, as a thing that is held -/
def both (e0 e : Ent) (l : Nat) (o : Obj) (F : List Ent) : Res where
  w k := e.W k ∨ k = l
  r k := e.A k ∨ ∃ f ∈ F, f.A k
  p u := BothP e0 e l o F u
  st u v h := fun hp => ⟨hp.ok.same fun k hk => h k (.inr (.inl hk)), (h l (.inl (.inr rfl))).trans hp.lp, fun f hf => (hp.fr f hf).same fun k hk => h k (.inr (.inr ⟨f, hf, hk⟩)), hp.ap, hp.fl, hp.el, hp.e0⟩
  bd u := fun hp k hk => by
    rcases hk with (hk | rfl) | hk | ⟨f, hf, hk⟩
    · exact hp.ok.lt hk.a
    · exact (Array.getElem?_eq_some_iff.1 hp.lp).1
    · exact hp.ok.lt hk
    · exact (hp.fr f hf).lt hk
def putPs (N : Nat) : List Tmp → List Value → Fr → Fr
  | p :: ps, v :: vs, σ => putPs N ps vs (put N (some p) v σ)
  | _, _, σ => σ
theorem putPs_fits {N : Nat} {D : List Deferred} (ps : List Tmp) : ∀ (vs : List Value) (σ : Fr) (L L' : List Ent) (a : Act), Fits N ⟨σ, L, D⟩ a → Fits N ⟨putPs N ps vs σ, L', []⟩ { tmps := (ps.zip vs).foldl (fun t (p, v) => t.setIfInBounds p v) a.tmps, defers := [] } := by
  induction ps with
  | nil => intro vs σ L L' a h; exact ⟨h.size, rfl, h.slot⟩
  | cons p ps ih =>
    intro vs σ L L' a h
    cases vs with
    | nil => exact ⟨h.size, rfl, h.slot⟩
    | cons v vs =>
      have := ih vs _ L L' (a.put (some p) v) (h.put (some p) v L)
      exact this
/-- how a round's body is left -/
def roundK {I α β : Type} (E : I → α → Ent) (S : β → Ent × Code) (l : Nat) (busy : Obj) (B : World) (e : Ent) (j : I) : Exit → Sy → Prop := fun x s => match x with
  | .normal => ∃ y, Sub [E j y, ⟨l, some busy, false, none⟩] s.L ∧ ∀ b, (E j y).A b → e.A b ∨ B.heap.size ≤ b
  | .ret => ∃ y, (S y).2 = .ret ∧ Sub [(S y).1, ⟨l, some busy, false, none⟩] s.L ∧ ∀ b, (S y).1.A b → e.A b ∨ B.heap.size ≤ b
  | .exit id => ∃ y, (S y).2 = .exit id ∧ Sub [(S y).1, ⟨l, some busy, false, none⟩] s.L ∧ ∀ b, (S y).1.A b → e.A b ∨ B.heap.size ≤ b
  | _ => False
/-- the body is begun -/
def beginK (C : Cx) (body : Code) (K : Exit → Sy → Prop) (l n : Nat) (ready busy : Obj) : Exit → Sy → Prop := fun x s => match x with
  | .normal => s.L[n]? = some ⟨l, some ready, false, none⟩ ∧ cx C body K ⟨s.σ, s.L.set n ⟨l, some busy, false, none⟩, s.D⟩
  | _ => False
/-- a round's end: what was held has turned -/
theorem round_turn {l : Nat} {e0 e e' : Ent} {o o' o'' : Obj} {F : List Ent} {w w' : World} (hp : BothP e0 e l o F w) (hs : St [fun b => b = l ∨ e.W b] w w' [e', ⟨l, some o', false, none⟩]) (hA : ∀ b, e'.A b → e.A b ∨ w.heap.size ≤ b) :
    Turns w (w'.putObj l o'') (both e0 e l o F) (both e0 e' l o'' F) := by
  have hl := (Array.getElem?_eq_some_iff.1 hp.lp).1
  have hl' := hs.nth (k := 1) rfl
  have hlt' := (Array.getElem?_eq_some_iff.1 hl').1
  have hel : ¬ e'.A l := by
    have := hs.apart
    simp only [List.pairwise_cons, List.mem_singleton, forall_eq] at this
    exact fun h => (this.1 l).2 (by simp) h
  have hW : ∀ b, e'.W b → w.heap.size ≤ b ∨ e.W b := fun b hb => by
    rcases hs.ownW e' (by simp) b hb with h | h
    · exact .inl h
    · simp only [inM_cons, inM_nil, or_false] at h
      rcases h with rfl | h
      · exact absurd hb.a hel
      · exact .inr h
  have hold : ∀ k, k < w.heap.size → ¬ (e.W k ∨ k = l) → (w'.putObj l o'').heap[k]? = w.heap[k]? := fun k hk hn =>
    (World.putObj_heap_other (fun h => hn (.inr h))).trans (hs.old k hk (by simp only [inM_cons, inM_nil, or_false]; rintro (h | h); exact hn (.inr h); exact hn (.inl h)))
  have hfr : ∀ f ∈ F, ∀ k, f.A k → k < w.heap.size ∧ ¬ (e.W k ∨ k = l) := fun f hf k hk => ⟨(hp.fr f hf).lt hk, by rintro (h | rfl); exact (hp.ap f hf k).1 h hk; exact hp.fl f hf hk⟩
  refine ⟨hs.os, hs.tape, hs.output, by rw [World.putObj_size]; exact hs.size, hold, ⟨?_, World.putObj_heap_same hlt', ?_, ?_, hp.fl, hel, ?_⟩, ?_, ?_⟩
  · exact (hs.ok e' (by simp)).same fun k hk => World.putObj_heap_other fun h => hel (h ▸ hk)
  · exact fun f hf => (hp.fr f hf).same fun k hk => hold k (hfr f hf k hk).1 (hfr f hf k hk).2
  · refine fun f hf k => ⟨fun h1 h2 => ?_, fun h1 h2 => ?_⟩
    · have := hfr f hf k h2
      rcases hW k h1 with h | h
      · omega
      · exact this.2 (.inl h)
    · have := hfr f hf k h1.a
      rcases hA k h2 with h | h
      · exact (hp.ap f hf k).2 h1 h
      · omega
  · intro k hk
    rcases hA k hk with h | h
    · exact hp.e0 k h
    · exact .inr (by omega)
  · rintro k (h | rfl)
    · rcases hW k h with h | h
      · exact .inr h
      · exact .inl (.inl h)
    · exact .inl (.inr rfl)
  · rintro k ((h | rfl) | h | h)
    · rcases hW k h with h | h
      · exact .inr h
      · exact .inl (.inl (.inl h))
    · exact .inl (.inl (.inr rfl))
    · rcases hA k h with h | h
      · exact .inl (.inr (.inl h))
      · exact .inr h
    · exact .inl (.inr (.inr h))
def exitOf : Code → Exit
  | .ret => .ret
  | .exit id => .exit id
  | _ => .normal
abbrev dfe (b : Nat) : Ent := ⟨b, some (.deferred (some [])), false, none⟩
def beginKP (C : Cx) (body : Code) (K : Exit → Sy → Prop) (l n : Nat) (ready busy : Obj) : Exit → Sy → Prop := fun x s => match x with
  | .normal => s.L[n]? = some ⟨l, some ready, false, none⟩ ∧ CodeP C body K ⟨s.σ, s.L.set n ⟨l, some busy, false, none⟩, s.D⟩
  | _ => False
theorem CodeP.mono {C : Cx} {c : Code} {K K' : Exit → Sy → Prop} {s : Sy} (h : ∀ e a w, Holds C (K e) a w → Holds C (K' e) a w) (hc : CodeP C c K s) : CodeP C c K' s := ⟨fun n a w hf hs => wpIn_mono (hc.go n a w hf hs) fun e a w hQ => h e a w hQ⟩
theorem CodeP.imp {C : Cx} {c : Code} {K K' : Exit → Sy → Prop} {s : Sy} (h : ∀ e s, K e s → K' e s) (hc : CodeP C c K s) : CodeP C c K' s := hc.mono fun e a w ⟨s, h1, h2, h3⟩ => ⟨s, h1, h2, h e s h3⟩
/-- a loop over a function, in a function of its own -/
theorem rf' {C : Cx} (hT : TabOk C.P C.T) (hF : C.F = none) {g : Operand} {ps : Array Tmp} {assign body : Code} {K : Exit → Sy → Prop} {σ : Fr} {L : List Ent} {D : List Deferred} {gf : FuncId} {lb : Array Value} {I α β : Type} {i0 : I} {nx : I → List Value → I → Prop} {fin : I → Prop} {H : Res}
    (hcl : callable C.T gf = true) (hg : ev σ g (· = .func (.func gf) #[] lb)) (hit : Itr C.P gf lb.toList i0 nx fin H) (k : Nat) (E : I → α → Ent) (S : β → Ent × Code) (hS : ∀ y, (S y).2 = .ret ∨ ∃ id, (S y).2 = .exit id) (x0 : α) (hk : L[k]? = some (E i0 x0))
    (hH : ∀ w, St C.M C.B w L → H.p w ∧ ∀ b, H.A b → ¬ (E i0 x0).W b) (hps : ∀ i args j, nx i args j → args.length = ps.size)
    (round : ∀ l i args j x w ready busy, nx i args j → CodeP ⟨C.P, C.T, C.N, [fun b => b = l ∨ (E i x).W b], w, some l⟩ assign (beginKP ⟨C.P, C.T, C.N, [fun b => b = l ∨ (E i x).W b], w, some l⟩ body (roundK E S l busy w (E i x) j) l L.length ready busy)
      ⟨putPs C.N ps.toList args σ, (L.map Ent.rd).set k (E i x) ++ [⟨l, some ready, false, none⟩], []⟩)
    (done : ∀ i y b0, fin i → K .normal ⟨σ, L.set k (E i y) ++ [dfe b0], { target := .collected b0, args := #[] } :: D⟩)
    (stop : ∀ y b0, K (exitOf (S y).2) ⟨σ, L.set k (S y).1 ++ [dfe b0], { target := .collected b0, args := #[] } :: D⟩) : CodeP C (.rangeFunc g ps assign body) K ⟨σ, L, D⟩ := by
  refine ⟨fun n a w hf hs => ?_⟩
  have hfence : C.fence = Fence.wide := by unfold Cx.fence; rw [hF]
  rw [hfence]
  have hkl : k < L.length := (List.getElem?_eq_some_iff.1 hk).1
  have hgv : a.eval g = .func (.func gf) #[] lb := hf.fit g _ hg
  obtain ⟨fn0, k1, k2, k3⟩ := entOk_enters (callable_enters hT hcl)
  have k4 : fn0.name ≠ "runtime.NumGoroutine" := by simpa using k2
  have eg : ∀ args w, (callFunc gf args).run C.P w = .ok (.enter gf args) w := by
    intro args w
    cases hb : fn0.body with
    | none => rw [hb] at k3; cases k3
    | some code => simp [callFunc, k1, k4, hb]
  refine wpIn_rangeFunc fun fn hfn => ?_
  obtain ⟨rec, hrec⟩ : ∃ rec : LoopState → Option Code → Loop, rec = fun st pe => { state := st, pending := pe, fn, tmps := a.tmps, params := ps, assign, body, defers := w.heap.size } := ⟨_, rfl⟩
  obtain ⟨W0, hW0⟩ : ∃ W0, W0 = w.alloc (.deferred (some [])) := ⟨_, rfl⟩
  obtain ⟨W1, hW1⟩ : ∃ W1, W1 = W0.alloc (.loop (rec .ready none)) := ⟨_, rfl⟩
  have hz0 : W0.heap.size = w.heap.size + 1 := by rw [hW0]; simp
  have hz1 : W1.heap.size = w.heap.size + 2 := by rw [hW1]; simp [hz0]
  have hs0 : St C.M C.B W0 (L ++ [dfe w.heap.size]) := by rw [hW0]; exact hs.alloc _
  have hL1 : W1.heap[w.heap.size + 1]? = some (.loop (rec .ready none)) := by rw [hW1, ← hz0]; exact heap_alloc_new W0 _
  have hs1 : St C.M C.B W1 (L ++ [dfe w.heap.size]) := by rw [hW1]; exact hs0.call (below_alloc1 W0 _)
  have hk1 : (L ++ [dfe w.heap.size])[k]? = some (E i0 x0) := by rw [List.getElem?_append_left hkl]; exact hk
  obtain ⟨F, hFF⟩ : ∃ F, F = (L ++ [dfe w.heap.size]).set k dead := ⟨_, rfl⟩
  have hF1 : ∀ f ∈ F, f = dead ∨ ∃ i, i ≠ k ∧ (L ++ [dfe w.heap.size])[i]? = some f := fun f hf => by rw [hFF] at hf; exact mem_set_cases hf
  have hFl : ∀ f ∈ F, ∀ j, f.A j → j < w.heap.size + 1 := fun f hf j hj => by
    rcases hF1 f hf with rfl | ⟨i, hi, hm⟩
    · simp at hj
    · have := hs0.ltA (List.mem_of_getElem? hm) hj; omega
  have hEl : ∀ j, (E i0 x0).A j → j < w.heap.size := fun j hj => hs.ltA (List.mem_of_getElem? hk) hj
  have hp0 : BothP (E i0 x0) (E i0 x0) (w.heap.size + 1) (.loop (rec .ready none)) F W1 := by
    refine ⟨hs1.ok _ (List.mem_of_getElem? hk1), hL1, fun f hf => ?_, fun f hf => ?_, fun f hf hj => ?_, fun hj => ?_, fun j hj => .inl hj⟩
    · rcases hF1 f hf with rfl | ⟨i, hi, hm⟩
      · simp
      · exact hs1.ok f (List.mem_of_getElem? hm)
    · rcases hF1 f hf with rfl | ⟨i, hi, hm⟩
      · exact (dead_apart _).symm
      · exact pw_ne hs1.apart hk1 hm (fun e => hi e.symm)
    · have := hFl f hf _ hj; omega
    · have := hEl _ hj; omega
  refine ⟨w.heap.size + 1, [{ target := .collected w.heap.size, args := #[] }], W1, { target := .fn (.func gf) lb, args := #[.func (.yield (w.heap.size + 1)) #[] #[]] }, W1, gf,
    #[.func (.yield (w.heap.size + 1)) #[] #[]] ++ lb, W1, ?_, ?_, fun _ _ => trivial, ?_, fun h => (by cases h), ?_⟩
  · rw [hW1, hW0, hrec]; exact run_enterLoop_outer _ _ _ _ _
  · simp only [resolve, hgv]
    simp [go_sem]
  · simp [invoke, go_sem, eg]
  · have hcall := hit.go (w.heap.size + 1) α β (fun i x => both (E i0 x0) (E i x) (w.heap.size + 1) (.loop (rec .ready none)) F) (fun y => both (E i0 x0) (S y).1 (w.heap.size + 1) (.loop (rec .done (some (S y).2))) F) W1 x0 hp0
      (H.st w W1 (fun j hj => by
        have hjl := H.bd w (hH w hs).1 j hj
        rw [hW1, hW0, Below.heap_alloc _ _ _ (by simp; omega), Below.heap_alloc _ _ _ hjl]) (hH w hs).1)
      (fun b hb hn => by
        rcases hn with h | h
        · exact (hH w hs).2 b hb h
        · have := H.bd w (hH w hs).1 b hb; omega) ?_
    · have e1 : (Value.func (.yield (w.heap.size + 1)) #[] #[] :: lb.toList).toArray = #[.func (.yield (w.heap.size + 1)) #[] #[]] ++ lb := by apply Array.ext'; simp
      rw [e1] at hcall
      refine ((callsIn_wide (n := n - 1)).2 hcall).mono ?_
      have fin' : ∀ (e' : Ent) (st : LoopState) (pe : Option Code) (W' : World), st ≠ .busy → Turns W1 W' (both (E i0 x0) (E i0 x0) (w.heap.size + 1) (.loop (rec .ready none)) F) (both (E i0 x0) e' (w.heap.size + 1) (.loop (rec st pe)) F) →
          ∃ w4, (Instr.endLoop (w.heap.size + 1)).run C.P W' = .ok pe w4 ∧ St C.M C.B w4 (L.set k e' ++ [dfe w.heap.size]) := by
        intro e' st pe W' hst ht
        have hp := ht.ok
        refine ⟨W'.putObj (w.heap.size + 1) (.loop { rec st pe with state := .exhausted }), by have := run_endLoop (P := C.P) hp.lp (by rw [hrec]; exact hst); subst hrec; exact this, ?_⟩
        have e2 : L.set k e' ++ [dfe w.heap.size] = (L ++ [dfe w.heap.size]).set k e' := by rw [List.set_append_left _ _ hkl]
        rw [e2]
        refine hs1.upd2 hk1 (by rw [World.putObj_size]; exact ht.size) (hp.ok.same fun j hj => World.putObj_heap_other fun h => hp.el (h ▸ hj)) (fun j hj hn ho => ?_) ht.os ht.tape ht.output (fun j hj => ?_) (fun j hj => ?_)
        · have hjl : j ≠ w.heap.size + 1 := by
            rcases ho with h | ⟨f, hf', h⟩
            · have := hs.size; omega
            · have := hFl f (hFF ▸ hf') j h; omega
          refine (World.putObj_heap_other hjl).trans (ht.old j hj ?_)
          rintro (h | h)
          · exact hn h
          · exact hjl h
        · rcases ht.W j (.inl hj) with (h | rfl) | h
          · exact .inl h
          · exact absurd hj.a hp.el
          · exact .inr h
        · rcases hp.e0 j hj with h | h
          · exact .inl h
          · exact .inr (by omega)
      rintro e W' ⟨⟨v, rfl⟩, ⟨i, y, hfi, ht⟩ | ⟨y, ht⟩⟩
      · obtain ⟨w4, hr, hs4⟩ := fin' _ _ _ W' (by simp) ht
        exact ⟨none, w4, hr, ⟨⟨σ, L.set k (E i y) ++ [dfe w.heap.size], { target := .collected w.heap.size, args := #[] } :: D⟩, ⟨hf.size, congrArg (_ :: ·) hf.defers, hf.slot⟩, hs4, done i y _ hfi⟩⟩
      · obtain ⟨w4, hr, hs4⟩ := fin' _ _ _ W' (by simp) ht
        refine ⟨some (S y).2, w4, hr, ?_⟩
        have hK := stop y w.heap.size
        rcases hS y with h | ⟨id, h⟩
        · rw [h] at hK ⊢
          exact wpIn_ret ⟨⟨σ, L.set k (S y).1 ++ [dfe w.heap.size], { target := .collected w.heap.size, args := #[] } :: D⟩, ⟨hf.size, congrArg (_ :: ·) hf.defers, hf.slot⟩, hs4, hK⟩
        · rw [h] at hK ⊢
          exact wpIn_exit ⟨⟨σ, L.set k (S y).1 ++ [dfe w.heap.size], { target := .collected w.heap.size, args := #[] } :: D⟩, ⟨hf.size, congrArg (_ :: ·) hf.defers, hf.slot⟩, hs4, hK⟩
    · intro i args j x u hn hp m
      have hpz := hps i args j hn
      have hy := run_yield (P := C.P) (args := args.toArray) hp.lp (by rw [hrec]; simpa using hpz)
      rw [hrec] at hy
      refine ⟨fn, _, assign, body, hy, roundIn_of_wpIn hfn ?_⟩
      have e3 : ((ps.zip args.toArray).foldl (fun t (p, v) => t.setIfInBounds p v) a.tmps) = ((ps.toList.zip args).foldl (fun t (p, v) => t.setIfInBounds p v) a.tmps) := by
        rw [← Array.foldl_toList]; simp
      have hfit := putPs_fits ps.toList args σ L ((L.map Ent.rd).set k (E i x) ++ [⟨w.heap.size + 1, some (.loop (rec .ready none)), false, none⟩]) a hf
      have hst : St [fun b => b = w.heap.size + 1 ∨ (E i x).W b] u u ((L.map Ent.rd).set k (E i x) ++ [⟨w.heap.size + 1, some (.loop (rec .ready none)), false, none⟩]) := by
        have hmem : ∀ f ∈ (L.map Ent.rd).set k (E i x), f = E i x ∨ ∃ f' ∈ F, f = f'.rd := by
          intro f hf
          rcases mem_set_cases hf with rfl | ⟨i', hi, hm⟩
          · exact .inl rfl
          · right
            rw [List.getElem?_map, Option.map_eq_some_iff] at hm
            obtain ⟨f', hm, rfl⟩ := hm
            have hil := (List.getElem?_eq_some_iff.1 hm).1
            exact ⟨f', by rw [hFF]; exact List.mem_of_getElem? (i := i') (by rw [List.getElem?_set_ne (fun e => hi e.symm), List.getElem?_append_left hil]; exact hm), rfl⟩
        refine St.from u _ _ (fun f hf => ?_) ?_
        · rcases List.mem_append.1 hf with hf | hf
          · rcases hmem f hf with rfl | ⟨f', hf', rfl⟩
            · exact ⟨hp.ok, fun b hb => by simp [hb]⟩
            · exact ⟨(Ent.rdOk _ _).2 (hp.fr f' hf'), fun b hb => absurd hb (Ent.rdW _ _)⟩
          · obtain rfl : f = ⟨w.heap.size + 1, some (.loop (rec .ready none)), false, none⟩ := by simpa using hf
            exact ⟨by simpa using hp.lp, fun b hb => by simp at hb; simp [hb]⟩
        · refine List.pairwise_append.2 ⟨pw_set ?_ ?_, by simp, ?_⟩
          · rw [List.pairwise_map]
            exact List.pairwise_of_forall (fun x y b => ⟨fun h => absurd h (Ent.rdW _ _), fun h => absurd h (Ent.rdW _ _)⟩)
          · intro i' f hi hm
            rw [List.getElem?_map, Option.map_eq_some_iff] at hm
            obtain ⟨f', hm, rfl⟩ := hm
            have hil := (List.getElem?_eq_some_iff.1 hm).1
            have hf' : f' ∈ F := by rw [hFF]; exact List.mem_of_getElem? (i := i') (by rw [List.getElem?_set_ne (fun e => hi e.symm), List.getElem?_append_left hil]; exact hm)
            exact fun b => ⟨fun h1 h2 => (hp.ap f' hf' b).1 h1 ((Ent.rdA _ _).1 h2), fun h1 => absurd h1 (Ent.rdW _ _)⟩
          · intro f hf y hy
            obtain rfl : y = ⟨w.heap.size + 1, some (.loop (rec .ready none)), false, none⟩ := by simpa using hy
            rcases hmem f hf with rfl | ⟨f', hf', rfl⟩
            · exact fun b => ⟨fun h1 h2 => by simp at h2; subst h2; exact hp.el h1.a, fun h1 h2 => by simp at h1; subst h1; exact hp.el h2⟩
            · exact fun b => ⟨fun h1 => absurd h1 (Ent.rdW _ _), fun h1 h2 => by simp at h1; subst h1; exact hp.fl f' hf' ((Ent.rdA _ _).1 h2)⟩
      have hcx := round (w.heap.size + 1) i args j x u (.loop (rec .ready none)) (.loop (rec .busy none)) hn
      rw [e3]
      refine wpIn_mono (hcx.go m _ u hfit hst) ?_
      rintro e a1 w1 ⟨s1, hf1, hs1', hb⟩
      cases e with
      | normal =>
        obtain ⟨hb1, hb2⟩ := hb
        have hl1 := hs1'.nth hb1
        refine ⟨w1.putObj (w.heap.size + 1) (.loop (rec .busy none)), by have := run_beginRound (P := C.P) hl1 (by rw [hrec]); subst hrec; exact this, ?_⟩
        have hs2 := hs1'.put (o' := .loop (rec .busy none)) hb1
        refine wpIn_mono (hb2.go m a1 _ ⟨hf1.size, hf1.defers, hf1.slot⟩ hs2) ?_
        rintro e a3 w3 ⟨s3, hf3, hs3, hb3⟩
        cases e with
        | normal =>
          obtain ⟨y, hsub, hA⟩ := hb3
          have h3 := hs3.sub hsub
          have hr := run_endRound (P := C.P) none (h3.nth (k := 1) rfl)
          refine ⟨_, _, hr, .inl ⟨rfl, y, ?_⟩⟩
          have := round_turn (o'' := .loop (rec .ready none)) hp h3 hA
          rw [hrec] at this ⊢; exact this
        | ret =>
          obtain ⟨y, hy, hsub, hA⟩ := hb3
          have h3 := hs3.sub hsub
          have hr := run_endRound (P := C.P) (some .ret) (h3.nth (k := 1) rfl)
          refine ⟨_, _, hr, .inr ⟨rfl, y, ?_⟩⟩
          have := round_turn (o'' := .loop (rec .done (some .ret))) hp h3 hA
          rw [hy]
          rw [hrec] at this ⊢; exact this
        | exit id =>
          obtain ⟨y, hy, hsub, hA⟩ := hb3
          have h3 := hs3.sub hsub
          have hr := run_endRound (P := C.P) (some (.exit id)) (h3.nth (k := 1) rfl)
          refine ⟨_, _, hr, .inr ⟨rfl, y, ?_⟩⟩
          have := round_turn (o'' := .loop (rec .done (some (.exit id)))) hp h3 hA
          rw [hy]
          rw [hrec] at this ⊢; exact this
        | goto t => exact hb3.elim
        | panic ch => exact hb3.elim
        | outgrown => exact hb3.elim
      | _ => exact hb.elim
/-- a loop over a function, in a function of its own; its rounds in symbolic steps -/
theorem rf {C : Cx} (hT : TabOk C.P C.T) (hF : C.F = none) {g : Operand} {ps : Array Tmp} {assign body : Code} {K : Exit → Sy → Prop} {σ : Fr} {L : List Ent} {D : List Deferred} {gf : FuncId} {lb : Array Value} {I α β : Type} {i0 : I} {nx : I → List Value → I → Prop} {fin : I → Prop} {H : Res}
    (hcl : callable C.T gf = true) (hg : ev σ g (· = .func (.func gf) #[] lb)) (hit : Itr C.P gf lb.toList i0 nx fin H) (k : Nat) (E : I → α → Ent) (S : β → Ent × Code) (hS : ∀ y, (S y).2 = .ret ∨ ∃ id, (S y).2 = .exit id) (x0 : α) (hk : L[k]? = some (E i0 x0))
    (hH : ∀ w, St C.M C.B w L → H.p w ∧ ∀ b, H.A b → ¬ (E i0 x0).W b) (hps : ∀ i args j, nx i args j → args.length = ps.size)
    (round : ∀ l i args j x w ready busy, nx i args j → cx ⟨C.P, C.T, C.N, [fun b => b = l ∨ (E i x).W b], w, some l⟩ assign (beginK ⟨C.P, C.T, C.N, [fun b => b = l ∨ (E i x).W b], w, some l⟩ body (roundK E S l busy w (E i x) j) l L.length ready busy)
      ⟨putPs C.N ps.toList args σ, (L.map Ent.rd).set k (E i x) ++ [⟨l, some ready, false, none⟩], []⟩)
    (done : ∀ i y b0, fin i → K .normal ⟨σ, L.set k (E i y) ++ [dfe b0], { target := .collected b0, args := #[] } :: D⟩)
    (stop : ∀ y b0, K (exitOf (S y).2) ⟨σ, L.set k (S y).1 ++ [dfe b0], { target := .collected b0, args := #[] } :: D⟩) : CodeP C (.rangeFunc g ps assign body) K ⟨σ, L, D⟩ := by
  refine rf' hT hF hcl hg hit k E S hS x0 hk hH hps (fun l i args j x w ready busy hn => ?_) done stop
  refine (cx_ok (C := ⟨C.P, C.T, C.N, [fun b => b = l ∨ (E i x).W b], w, some l⟩) hT assign _ _ (round l i args j x w ready busy hn)).imp fun e s h => ?_
  cases e with
  | normal => exact ⟨h.1, cx_ok (C := ⟨C.P, C.T, C.N, [fun b => b = l ∨ (E i x).W b], w, some l⟩) hT body _ _ h.2⟩
  | _ => exact h.elim
end Go.Sx
