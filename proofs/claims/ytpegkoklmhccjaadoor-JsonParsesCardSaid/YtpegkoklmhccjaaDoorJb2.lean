/- What the laws of chapter 12 share: the engine, the program's json and the reference's, with Check and Good. -/
import Derived.RangeFuncBound
import Derived.RangeFuncRecord
import Derived.Test.YtpegkoklmhccjaaDoorJb1
section
namespace Go.Sx
open Go Go.RowKit
set_option linter.unusedVariables false

def Res.A (r : Res) (k : Nat) : Prop := r.w k ∨ r.r k
/-- a function that is ranged over: its states, its rounds, its ends, what it reads -/
structure Itr (P : Program) (g : FuncId) (lb : List Value) {I : Type} (i0 : I) (nx : I → List Value → I → Prop) (fin : I → Prop) (H : Res) : Prop where
  go : ∀ (l : Nat) (α β : Type) (R : I → α → Res) (S : β → Res) (W : World) (x0 : α), (R i0 x0).p W → H.p W → (∀ k, H.A k → ¬ (R i0 x0).w k) →
    (∀ i args j x w, nx i args j → (R i x).p w → ∀ m, YieldAt Fence.wide m P l args.toArray w fun e w' => (e = .returned (.bool true) ∧ ∃ y, Turns w w' (R i x) (R j y)) ∨ (e = .returned (.bool false) ∧ ∃ y, Turns w w' (R i x) (S y))) →
    Calls P g (.func (.yield l) #[] #[] :: lb).toArray W fun e W' => (∃ v, e = .returned v) ∧ ((∃ i y, fin i ∧ Turns W W' (R i0 x0) (R i y)) ∨ ∃ y, Turns W W' (R i0 x0) (S y))
/-- a round is asked for -/
theorem yd {C : Cx} {L : List Ent} {l : Nat} {args : List Value} {I α β : Type} {R : I → α → Res} {S : β → Res} {nx : I → List Value → I → Prop} (k : Nat) {i j : I} {x : α} {next : Value → List Ent → Prop} (hk : L[k]? = some (rs (R i x)))
    (hr : ∀ i args j x w, nx i args j → (R i x).p w → ∀ m, YieldAt Fence.wide m C.P l args.toArray w fun e w' => (e = .returned (.bool true) ∧ ∃ y, Turns w w' (R i x) (R j y)) ∨ (e = .returned (.bool false) ∧ ∃ y, Turns w w' (R i x) (S y)))
    (hn : nx i args j) (g1 : ∀ y, (∀ b, (R j y).A b → (R i x).A b ∨ C.B.heap.size ≤ b) → next (.bool true) (L.set k (rs (R j y)))) (g0 : ∀ y, (∀ b, (S y).A b → (R i x).A b ∨ C.B.heap.size ≤ b) → next (.bool false) (L.set k (rs (S y)))) : YieldP C l args L next := by
  refine ⟨fun w hs m => YieldAt.mono (hr i args j x w hn (hs.res hk) m) fun e w' h => ?_⟩
  have hsz := hs.size
  rcases h with ⟨he, y, ht⟩ | ⟨he, y, ht⟩
  · exact ⟨_, _, he, hs.turn hk ht, g1 y fun b hb => (ht.A b hb).imp id fun h => Nat.le_trans hsz h⟩
  · exact ⟨_, _, he, hs.turn hk ht, g0 y fun b hb => (ht.A b hb).imp id fun h => Nat.le_trans hsz h⟩

def Res.rd (r : Res) : Res := ⟨fun _ => False, fun k => r.w k ∨ r.r k, r.p, fun u v h => r.st u v fun k hk => h k (.inr hk), fun u h k hk => r.bd u h k (by rcases hk with hk | hk; exact hk.elim; exact hk)⟩
/-- an entry that is only read -/
def Ent.rd (e : Ent) : Ent := ⟨e.b, e.o, true, e.q.map Res.rd⟩
theorem Ent.rdW (e : Ent) (k : Nat) : ¬ e.rd.W k := by
  rintro (⟨_, h, _⟩ | ⟨r, h, hr⟩)
  · cases h
  · simp only [Ent.rd, Option.map_eq_some_iff] at h
    obtain ⟨r', _, rfl⟩ := h
    exact hr
theorem Ent.rdA (e : Ent) (k : Nat) : e.rd.A k ↔ e.A k := by
  unfold Ent.A Ent.rd
  constructor
  · rintro (h | ⟨r, h, hr⟩)
    · exact .inl h
    · simp only [Option.map_eq_some_iff] at h
      obtain ⟨r', h1, rfl⟩ := h
      exact .inr ⟨r', h1, by rcases hr with hr | hr; exact hr.elim; exact hr⟩
  · rintro (h | ⟨r, h, hr⟩)
    · exact .inl h
    · exact .inr ⟨r.rd, by rw [h]; rfl, .inr hr⟩
theorem Ent.rdOk (e : Ent) (w : World) : e.rd.Ok w ↔ e.Ok w := by
  unfold Ent.Ok Ent.rd
  constructor
  · rintro ⟨h1, h2⟩
    exact ⟨h1, fun r hr => h2 r.rd (by rw [hr]; rfl)⟩
  · rintro ⟨h1, h2⟩
    refine ⟨h1, fun r hr => ?_⟩
    simp only [Option.map_eq_some_iff] at hr
    obtain ⟨r', h3, rfl⟩ := hr
    exact h2 r' h3
/-- what a round may count on -/
structure BothP (e0 e : Ent) (l : Nat) (o : Obj) (F : List Ent) (u : World) : Prop where
  ok : e.Ok u
  lp : u.heap[l]? = some o
  fr : ∀ f ∈ F, f.Ok u
  ap : ∀ f ∈ F, Apart e f
  fl : ∀ f ∈ F, ¬ f.A l
  el : ¬ e.A l
  e0 : ∀ k, e.A k → e0.A k ∨ l < k
/-- an entry and entries that are only read, «as» a thing that is held -/
def both (e0 e : Ent) (l : Nat) (o : Obj) (F : List Ent) : Res where
  w k := e.W k ∨ k = l
  r k := e.A k ∨ ∃ f ∈ F, f.A k
  p u := BothP e0 e l o F u
  st u v h := fun hp => ⟨hp.ok.same fun k hk => h k (.inr (.inl hk)), (h l (.inl (.inr rfl))).trans hp.lp, fun f hf => (hp.fr f hf).same fun k hk => h k (.inr (.inr ⟨f, hf, hk⟩)), hp.ap, hp.fl, hp.el, hp.e0⟩
  bd u := fun hp k hk => by
    rcases hk with (hk | rfl) | hk | ⟨f, hf, hk⟩
    · exact hp.ok.lt hk.a
    · exact (Array.getElem?_eq_some_iff.1 hp.lp).1
    · exact hp.ok.lt hk
    · exact (hp.fr f hf).lt hk
def putPs (N : Nat) : List Tmp → List Value → Fr → Fr
  | p :: ps, v :: vs, σ => putPs N ps vs (put N (some p) v σ)
  | _, _, σ => σ
theorem putPs_fits {N : Nat} {D : List Deferred} (ps : List Tmp) : ∀ (vs : List Value) (σ : Fr) (L L' : List Ent) (a : Act), Fits N ⟨σ, L, D⟩ a → Fits N ⟨putPs N ps vs σ, L', []⟩ { tmps := (ps.zip vs).foldl (fun t (p, v) => t.setIfInBounds p v) a.tmps, defers := [] } := by
  induction ps with
  | nil => intro vs σ L L' a h; exact ⟨h.size, rfl, h.slot⟩
  | cons p ps ih =>
    intro vs σ L L' a h
    cases vs with
    | nil => exact ⟨h.size, rfl, h.slot⟩
    | cons v vs =>
      have := ih vs _ L L' (a.put (some p) v) (h.put (some p) v L)
      exact this
/-- how a round's body is left -/
def roundK {I α β : Type} (E : I → α → Ent) (S : β → Ent × Code) (l : Nat) (busy : Obj) (B : World) (e : Ent) (j : I) : Exit → Sy → Prop := fun x s => match x with
  | .normal => ∃ y, Sub [E j y, ⟨l, some busy, false, none⟩] s.L ∧ ∀ b, (E j y).A b → e.A b ∨ B.heap.size ≤ b
  | .ret => ∃ y, (S y).2 = .ret ∧ Sub [(S y).1, ⟨l, some busy, false, none⟩] s.L ∧ ∀ b, (S y).1.A b → e.A b ∨ B.heap.size ≤ b
  | .exit id => ∃ y, (S y).2 = .exit id ∧ Sub [(S y).1, ⟨l, some busy, false, none⟩] s.L ∧ ∀ b, (S y).1.A b → e.A b ∨ B.heap.size ≤ b
  | _ => False
/-- the body is begun -/
def beginK (C : Cx) (body : Code) (K : Exit → Sy → Prop) (l n : Nat) (ready busy : Obj) : Exit → Sy → Prop := fun x s => match x with
  | .normal => s.L[n]? = some ⟨l, some ready, false, none⟩ ∧ cx C body K ⟨s.σ, s.L.set n ⟨l, some busy, false, none⟩, s.D⟩
  | _ => False
/-- a round's end: what was held has turned -/
theorem round_turn {l : Nat} {e0 e e' : Ent} {o o' o'' : Obj} {F : List Ent} {w w' : World} (hp : BothP e0 e l o F w) (hs : St [fun b => b = l ∨ e.W b] w w' [e', ⟨l, some o', false, none⟩]) (hA : ∀ b, e'.A b → e.A b ∨ w.heap.size ≤ b) :
    Turns w (w'.putObj l o'') (both e0 e l o F) (both e0 e' l o'' F) := by
  have hl := (Array.getElem?_eq_some_iff.1 hp.lp).1
  have hl' := hs.nth (k := 1) rfl
  have hlt' := (Array.getElem?_eq_some_iff.1 hl').1
  have hel : ¬ e'.A l := by
    have := hs.apart
    simp only [List.pairwise_cons, List.mem_singleton, forall_eq] at this
    exact fun h => (this.1 l).2 (by simp) h
  have hW : ∀ b, e'.W b → w.heap.size ≤ b ∨ e.W b := fun b hb => by
    rcases hs.ownW e' (by simp) b hb with h | h
    · exact .inl h
    · simp only [inM_cons, inM_nil, or_false] at h
      rcases h with rfl | h
      · exact absurd hb.a hel
      · exact .inr h
  have hold : ∀ k, k < w.heap.size → ¬ (e.W k ∨ k = l) → (w'.putObj l o'').heap[k]? = w.heap[k]? := fun k hk hn =>
    (World.putObj_heap_other (fun h => hn (.inr h))).trans (hs.old k hk (by simp only [inM_cons, inM_nil, or_false]; rintro (h | h); exact hn (.inr h); exact hn (.inl h)))
  have hfr : ∀ f ∈ F, ∀ k, f.A k → k < w.heap.size ∧ ¬ (e.W k ∨ k = l) := fun f hf k hk => ⟨(hp.fr f hf).lt hk, by rintro (h | rfl); exact (hp.ap f hf k).1 h hk; exact hp.fl f hf hk⟩
  refine ⟨hs.os, hs.tape, hs.output, by rw [World.putObj_size]; exact hs.size, hold, ⟨?_, World.putObj_heap_same hlt', ?_, ?_, hp.fl, hel, ?_⟩, ?_, ?_⟩
  · exact (hs.ok e' (by simp)).same fun k hk => World.putObj_heap_other fun h => hel (h ▸ hk)
  · exact fun f hf => (hp.fr f hf).same fun k hk => hold k (hfr f hf k hk).1 (hfr f hf k hk).2
  · refine fun f hf k => ⟨fun h1 h2 => ?_, fun h1 h2 => ?_⟩
    · have := hfr f hf k h2
      rcases hW k h1 with h | h
      · omega
      · exact this.2 (.inl h)
    · have := hfr f hf k h1.a
      rcases hA k h2 with h | h
      · exact (hp.ap f hf k).2 h1 h
      · omega
  · intro k hk
    rcases hA k hk with h | h
    · exact hp.e0 k h
    · exact .inr (by omega)
  · rintro k (h | rfl)
    · rcases hW k h with h | h
      · exact .inr h
      · exact .inl (.inl h)
    · exact .inl (.inr rfl)
  · rintro k ((h | rfl) | h | h)
    · rcases hW k h with h | h
      · exact .inr h
      · exact .inl (.inl (.inl h))
    · exact .inl (.inl (.inr rfl))
    · rcases hA k h with h | h
      · exact .inl (.inr (.inl h))
      · exact .inr h
    · exact .inl (.inr (.inr h))
def exitOf : Code → Exit
  | .ret => .ret
  | .exit id => .exit id
  | _ => .normal
abbrev dfe (b : Nat) : Ent := ⟨b, some (.deferred (some [])), false, none⟩
def beginKP (C : Cx) (body : Code) (K : Exit → Sy → Prop) (l n : Nat) (ready busy : Obj) : Exit → Sy → Prop := fun x s => match x with
  | .normal => s.L[n]? = some ⟨l, some ready, false, none⟩ ∧ CodeP C body K ⟨s.σ, s.L.set n ⟨l, some busy, false, none⟩, s.D⟩
  | _ => False
theorem CodeP.mono {C : Cx} {c : Code} {K K' : Exit → Sy → Prop} {s : Sy} (h : ∀ e a w, Holds C (K e) a w → Holds C (K' e) a w) (hc : CodeP C c K s) : CodeP C c K' s := ⟨fun n a w hf hs => wpIn_mono (hc.go n a w hf hs) fun e a w hQ => h e a w hQ⟩
theorem CodeP.imp {C : Cx} {c : Code} {K K' : Exit → Sy → Prop} {s : Sy} (h : ∀ e s, K e s → K' e s) (hc : CodeP C c K s) : CodeP C c K' s := hc.mono fun e a w ⟨s, h1, h2, h3⟩ => ⟨s, h1, h2, h e s h3⟩
/-- a loop over a function, in a function of its own -/
theorem rf' {C : Cx} (hT : TabOk C.P C.T) (hF : C.F = none) {g : Operand} {ps : Array Tmp} {assign body : Code} {K : Exit → Sy → Prop} {σ : Fr} {L : List Ent} {D : List Deferred} {gf : FuncId} {lb : Array Value} {I α β : Type} {i0 : I} {nx : I → List Value → I → Prop} {fin : I → Prop} {H : Res}
    (hcl : callable C.T gf = true) (hg : ev σ g (· = .func (.func gf) #[] lb)) (hit : Itr C.P gf lb.toList i0 nx fin H) (k : Nat) (E : I → α → Ent) (S : β → Ent × Code) (hS : ∀ y, (S y).2 = .ret ∨ ∃ id, (S y).2 = .exit id) (x0 : α) (hk : L[k]? = some (E i0 x0))
    (hH : ∀ w, St C.M C.B w L → H.p w ∧ ∀ b, H.A b → ¬ (E i0 x0).W b) (hps : ∀ i args j, nx i args j → args.length = ps.size)
    (round : ∀ l i args j x w ready busy, nx i args j → CodeP ⟨C.P, C.T, C.N, [fun b => b = l ∨ (E i x).W b], w, some l⟩ assign (beginKP ⟨C.P, C.T, C.N, [fun b => b = l ∨ (E i x).W b], w, some l⟩ body (roundK E S l busy w (E i x) j) l L.length ready busy)
      ⟨putPs C.N ps.toList args σ, (L.map Ent.rd).set k (E i x) ++ [⟨l, some ready, false, none⟩], []⟩)
    (done : ∀ i y b0, fin i → K .normal ⟨σ, L.set k (E i y) ++ [dfe b0], { target := .collected b0, args := #[] } :: D⟩)
    (stop : ∀ y b0, K (exitOf (S y).2) ⟨σ, L.set k (S y).1 ++ [dfe b0], { target := .collected b0, args := #[] } :: D⟩) : CodeP C (.rangeFunc g ps assign body) K ⟨σ, L, D⟩ := by
  refine ⟨fun n a w hf hs => ?_⟩
  have hfence : C.fence = Fence.wide := by unfold Cx.fence; rw [hF]
  rw [hfence]
  have hkl : k < L.length := (List.getElem?_eq_some_iff.1 hk).1
  have hgv : a.eval g = .func (.func gf) #[] lb := hf.fit g _ hg
  obtain ⟨fn0, k1, k2, k3⟩ := entOk_enters (callable_enters hT hcl)
  have k4 : fn0.name ≠ "runtime.NumGoroutine" := by simpa using k2
  have eg : ∀ args w, (callFunc gf args).run C.P w = .ok (.enter gf args) w := by
    intro args w
    cases hb : fn0.body with
    | none => rw [hb] at k3; cases k3
    | some code => simp [callFunc, k1, k4, hb]
  refine wpIn_rangeFunc fun fn hfn => ?_
  obtain ⟨rec, hrec⟩ : ∃ rec : LoopState → Option Code → Loop, rec = fun st pe => { state := st, pending := pe, fn, tmps := a.tmps, params := ps, assign, body, defers := w.heap.size } := ⟨_, rfl⟩
  obtain ⟨W0, hW0⟩ : ∃ W0, W0 = w.alloc (.deferred (some [])) := ⟨_, rfl⟩
  obtain ⟨W1, hW1⟩ : ∃ W1, W1 = W0.alloc (.loop (rec .ready none)) := ⟨_, rfl⟩
  have hz0 : W0.heap.size = w.heap.size + 1 := by rw [hW0]; simp
  have hz1 : W1.heap.size = w.heap.size + 2 := by rw [hW1]; simp [hz0]
  have hs0 : St C.M C.B W0 (L ++ [dfe w.heap.size]) := by rw [hW0]; exact hs.alloc _
  have hL1 : W1.heap[w.heap.size + 1]? = some (.loop (rec .ready none)) := by rw [hW1, ← hz0]; exact heap_alloc_new W0 _
  have hs1 : St C.M C.B W1 (L ++ [dfe w.heap.size]) := by rw [hW1]; exact hs0.call (below_alloc1 W0 _)
  have hk1 : (L ++ [dfe w.heap.size])[k]? = some (E i0 x0) := by rw [List.getElem?_append_left hkl]; exact hk
  obtain ⟨F, hFF⟩ : ∃ F, F = (L ++ [dfe w.heap.size]).set k dead := ⟨_, rfl⟩
  have hF1 : ∀ f ∈ F, f = dead ∨ ∃ i, i ≠ k ∧ (L ++ [dfe w.heap.size])[i]? = some f := fun f hf => by rw [hFF] at hf; exact mem_set_cases hf
  have hFl : ∀ f ∈ F, ∀ j, f.A j → j < w.heap.size + 1 := fun f hf j hj => by
    rcases hF1 f hf with rfl | ⟨i, hi, hm⟩
    · simp at hj
    · have := hs0.ltA (List.mem_of_getElem? hm) hj; omega
  have hEl : ∀ j, (E i0 x0).A j → j < w.heap.size := fun j hj => hs.ltA (List.mem_of_getElem? hk) hj
  have hp0 : BothP (E i0 x0) (E i0 x0) (w.heap.size + 1) (.loop (rec .ready none)) F W1 := by
    refine ⟨hs1.ok _ (List.mem_of_getElem? hk1), hL1, fun f hf => ?_, fun f hf => ?_, fun f hf hj => ?_, fun hj => ?_, fun j hj => .inl hj⟩
    · rcases hF1 f hf with rfl | ⟨i, hi, hm⟩
      · simp
      · exact hs1.ok f (List.mem_of_getElem? hm)
    · rcases hF1 f hf with rfl | ⟨i, hi, hm⟩
      · exact (dead_apart _).symm
      · exact pw_ne hs1.apart hk1 hm (fun e => hi e.symm)
    · have := hFl f hf _ hj; omega
    · have := hEl _ hj; omega
  refine ⟨w.heap.size + 1, [{ target := .collected w.heap.size, args := #[] }], W1, { target := .fn (.func gf) lb, args := #[.func (.yield (w.heap.size + 1)) #[] #[]] }, W1, gf,
    #[.func (.yield (w.heap.size + 1)) #[] #[]] ++ lb, W1, ?_, ?_, fun _ _ => trivial, ?_, fun h => (by cases h), ?_⟩
  · rw [hW1, hW0, hrec]; exact run_enterLoop_outer _ _ _ _ _
  · simp only [resolve, hgv]
    simp [go_sem]
  · simp [invoke, go_sem, eg]
  · have hcall := hit.go (w.heap.size + 1) α β (fun i x => both (E i0 x0) (E i x) (w.heap.size + 1) (.loop (rec .ready none)) F) (fun y => both (E i0 x0) (S y).1 (w.heap.size + 1) (.loop (rec .done (some (S y).2))) F) W1 x0 hp0
      (H.st w W1 (fun j hj => by
        have hjl := H.bd w (hH w hs).1 j hj
        rw [hW1, hW0, Below.heap_alloc _ _ _ (by simp; omega), Below.heap_alloc _ _ _ hjl]) (hH w hs).1)
      (fun b hb hn => by
        rcases hn with h | h
        · exact (hH w hs).2 b hb h
        · have := H.bd w (hH w hs).1 b hb; omega) ?_
    · have e1 : (Value.func (.yield (w.heap.size + 1)) #[] #[] :: lb.toList).toArray = #[.func (.yield (w.heap.size + 1)) #[] #[]] ++ lb := by apply Array.ext'; simp
      rw [e1] at hcall
      refine ((callsIn_wide (n := n - 1)).2 hcall).mono ?_
      have fin' : ∀ (e' : Ent) (st : LoopState) (pe : Option Code) (W' : World), st ≠ .busy → Turns W1 W' (both (E i0 x0) (E i0 x0) (w.heap.size + 1) (.loop (rec .ready none)) F) (both (E i0 x0) e' (w.heap.size + 1) (.loop (rec st pe)) F) →
          ∃ w4, (Instr.endLoop (w.heap.size + 1)).run C.P W' = .ok pe w4 ∧ St C.M C.B w4 (L.set k e' ++ [dfe w.heap.size]) := by
        intro e' st pe W' hst ht
        have hp := ht.ok
        refine ⟨W'.putObj (w.heap.size + 1) (.loop { rec st pe with state := .exhausted }), by have := run_endLoop (P := C.P) hp.lp (by rw [hrec]; exact hst); subst hrec; exact this, ?_⟩
        have e2 : L.set k e' ++ [dfe w.heap.size] = (L ++ [dfe w.heap.size]).set k e' := by rw [List.set_append_left _ _ hkl]
        rw [e2]
        refine hs1.upd2 hk1 (by rw [World.putObj_size]; exact ht.size) (hp.ok.same fun j hj => World.putObj_heap_other fun h => hp.el (h ▸ hj)) (fun j hj hn ho => ?_) ht.os ht.tape ht.output (fun j hj => ?_) (fun j hj => ?_)
        · have hjl : j ≠ w.heap.size + 1 := by
            rcases ho with h | ⟨f, hf', h⟩
            · have := hs.size; omega
            · have := hFl f (hFF ▸ hf') j h; omega
          refine (World.putObj_heap_other hjl).trans (ht.old j hj ?_)
          rintro (h | h)
          · exact hn h
          · exact hjl h
        · rcases ht.W j (.inl hj) with (h | rfl) | h
          · exact .inl h
          · exact absurd hj.a hp.el
          · exact .inr h
        · rcases hp.e0 j hj with h | h
          · exact .inl h
          · exact .inr (by omega)
      rintro e W' ⟨⟨v, rfl⟩, ⟨i, y, hfi, ht⟩ | ⟨y, ht⟩⟩
      · obtain ⟨w4, hr, hs4⟩ := fin' _ _ _ W' (by simp) ht
        exact ⟨none, w4, hr, ⟨⟨σ, L.set k (E i y) ++ [dfe w.heap.size], { target := .collected w.heap.size, args := #[] } :: D⟩, ⟨hf.size, congrArg (_ :: ·) hf.defers, hf.slot⟩, hs4, done i y _ hfi⟩⟩
      · obtain ⟨w4, hr, hs4⟩ := fin' _ _ _ W' (by simp) ht
        refine ⟨some (S y).2, w4, hr, ?_⟩
        have hK := stop y w.heap.size
        rcases hS y with h | ⟨id, h⟩
        · rw [h] at hK ⊢
          exact wpIn_ret ⟨⟨σ, L.set k (S y).1 ++ [dfe w.heap.size], { target := .collected w.heap.size, args := #[] } :: D⟩, ⟨hf.size, congrArg (_ :: ·) hf.defers, hf.slot⟩, hs4, hK⟩
        · rw [h] at hK ⊢
          exact wpIn_exit ⟨⟨σ, L.set k (S y).1 ++ [dfe w.heap.size], { target := .collected w.heap.size, args := #[] } :: D⟩, ⟨hf.size, congrArg (_ :: ·) hf.defers, hf.slot⟩, hs4, hK⟩
    · intro i args j x u hn hp m
      have hpz := hps i args j hn
      have hy := run_yield (P := C.P) (args := args.toArray) hp.lp (by rw [hrec]; simpa using hpz)
      rw [hrec] at hy
      refine ⟨fn, _, assign, body, hy, roundIn_of_wpIn hfn ?_⟩
      have e3 : ((ps.zip args.toArray).foldl (fun t (p, v) => t.setIfInBounds p v) a.tmps) = ((ps.toList.zip args).foldl (fun t (p, v) => t.setIfInBounds p v) a.tmps) := by
        rw [← Array.foldl_toList]; simp
      have hfit := putPs_fits ps.toList args σ L ((L.map Ent.rd).set k (E i x) ++ [⟨w.heap.size + 1, some (.loop (rec .ready none)), false, none⟩]) a hf
      have hst : St [fun b => b = w.heap.size + 1 ∨ (E i x).W b] u u ((L.map Ent.rd).set k (E i x) ++ [⟨w.heap.size + 1, some (.loop (rec .ready none)), false, none⟩]) := by
        have hmem : ∀ f ∈ (L.map Ent.rd).set k (E i x), f = E i x ∨ ∃ f' ∈ F, f = f'.rd := by
          intro f hf
          rcases mem_set_cases hf with rfl | ⟨i', hi, hm⟩
          · exact .inl rfl
          · right
            rw [List.getElem?_map, Option.map_eq_some_iff] at hm
            obtain ⟨f', hm, rfl⟩ := hm
            have hil := (List.getElem?_eq_some_iff.1 hm).1
            exact ⟨f', by rw [hFF]; exact List.mem_of_getElem? (i := i') (by rw [List.getElem?_set_ne (fun e => hi e.symm), List.getElem?_append_left hil]; exact hm), rfl⟩
        refine St.from u _ _ (fun f hf => ?_) ?_
        · rcases List.mem_append.1 hf with hf | hf
          · rcases hmem f hf with rfl | ⟨f', hf', rfl⟩
            · exact ⟨hp.ok, fun b hb => by simp [hb]⟩
            · exact ⟨(Ent.rdOk _ _).2 (hp.fr f' hf'), fun b hb => absurd hb (Ent.rdW _ _)⟩
          · obtain rfl : f = ⟨w.heap.size + 1, some (.loop (rec .ready none)), false, none⟩ := by simpa using hf
            exact ⟨by simpa using hp.lp, fun b hb => by simp at hb; simp [hb]⟩
        · refine List.pairwise_append.2 ⟨pw_set ?_ ?_, by simp, ?_⟩
          · rw [List.pairwise_map]
            exact List.pairwise_of_forall (fun x y b => ⟨fun h => absurd h (Ent.rdW _ _), fun h => absurd h (Ent.rdW _ _)⟩)
          · intro i' f hi hm
            rw [List.getElem?_map, Option.map_eq_some_iff] at hm
            obtain ⟨f', hm, rfl⟩ := hm
            have hil := (List.getElem?_eq_some_iff.1 hm).1
            have hf' : f' ∈ F := by rw [hFF]; exact List.mem_of_getElem? (i := i') (by rw [List.getElem?_set_ne (fun e => hi e.symm), List.getElem?_append_left hil]; exact hm)
            exact fun b => ⟨fun h1 h2 => (hp.ap f' hf' b).1 h1 ((Ent.rdA _ _).1 h2), fun h1 => absurd h1 (Ent.rdW _ _)⟩
          · intro f hf y hy
            obtain rfl : y = ⟨w.heap.size + 1, some (.loop (rec .ready none)), false, none⟩ := by simpa using hy
            rcases hmem f hf with rfl | ⟨f', hf', rfl⟩
            · exact fun b => ⟨fun h1 h2 => by simp at h2; subst h2; exact hp.el h1.a, fun h1 h2 => by simp at h1; subst h1; exact hp.el h2⟩
            · exact fun b => ⟨fun h1 => absurd h1 (Ent.rdW _ _), fun h1 h2 => by simp at h1; subst h1; exact hp.fl f' hf' ((Ent.rdA _ _).1 h2)⟩
      have hcx := round (w.heap.size + 1) i args j x u (.loop (rec .ready none)) (.loop (rec .busy none)) hn
      rw [e3]
      refine wpIn_mono (hcx.go m _ u hfit hst) ?_
      rintro e a1 w1 ⟨s1, hf1, hs1', hb⟩
      cases e with
      | normal =>
        obtain ⟨hb1, hb2⟩ := hb
        have hl1 := hs1'.nth hb1
        refine ⟨w1.putObj (w.heap.size + 1) (.loop (rec .busy none)), by have := run_beginRound (P := C.P) hl1 (by rw [hrec]); subst hrec; exact this, ?_⟩
        have hs2 := hs1'.put (o' := .loop (rec .busy none)) hb1
        refine wpIn_mono (hb2.go m a1 _ ⟨hf1.size, hf1.defers, hf1.slot⟩ hs2) ?_
        rintro e a3 w3 ⟨s3, hf3, hs3, hb3⟩
        cases e with
        | normal =>
          obtain ⟨y, hsub, hA⟩ := hb3
          have h3 := hs3.sub hsub
          have hr := run_endRound (P := C.P) none (h3.nth (k := 1) rfl)
          refine ⟨_, _, hr, .inl ⟨rfl, y, ?_⟩⟩
          have := round_turn (o'' := .loop (rec .ready none)) hp h3 hA
          rw [hrec] at this ⊢; exact this
        | ret =>
          obtain ⟨y, hy, hsub, hA⟩ := hb3
          have h3 := hs3.sub hsub
          have hr := run_endRound (P := C.P) (some .ret) (h3.nth (k := 1) rfl)
          refine ⟨_, _, hr, .inr ⟨rfl, y, ?_⟩⟩
          have := round_turn (o'' := .loop (rec .done (some .ret))) hp h3 hA
          rw [hy]
          rw [hrec] at this ⊢; exact this
        | exit id =>
          obtain ⟨y, hy, hsub, hA⟩ := hb3
          have h3 := hs3.sub hsub
          have hr := run_endRound (P := C.P) (some (.exit id)) (h3.nth (k := 1) rfl)
          refine ⟨_, _, hr, .inr ⟨rfl, y, ?_⟩⟩
          have := round_turn (o'' := .loop (rec .done (some (.exit id)))) hp h3 hA
          rw [hy]
          rw [hrec] at this ⊢; exact this
        | goto t => exact hb3.elim
        | panic ch => exact hb3.elim
        | outgrown => exact hb3.elim
      | _ => exact hb.elim
/-- a loop over a function, in a function of its own; its rounds in symbolic steps -/
theorem rf {C : Cx} (hT : TabOk C.P C.T) (hF : C.F = none) {g : Operand} {ps : Array Tmp} {assign body : Code} {K : Exit → Sy → Prop} {σ : Fr} {L : List Ent} {D : List Deferred} {gf : FuncId} {lb : Array Value} {I α β : Type} {i0 : I} {nx : I → List Value → I → Prop} {fin : I → Prop} {H : Res}
    (hcl : callable C.T gf = true) (hg : ev σ g (· = .func (.func gf) #[] lb)) (hit : Itr C.P gf lb.toList i0 nx fin H) (k : Nat) (E : I → α → Ent) (S : β → Ent × Code) (hS : ∀ y, (S y).2 = .ret ∨ ∃ id, (S y).2 = .exit id) (x0 : α) (hk : L[k]? = some (E i0 x0))
    (hH : ∀ w, St C.M C.B w L → H.p w ∧ ∀ b, H.A b → ¬ (E i0 x0).W b) (hps : ∀ i args j, nx i args j → args.length = ps.size)
    (round : ∀ l i args j x w ready busy, nx i args j → cx ⟨C.P, C.T, C.N, [fun b => b = l ∨ (E i x).W b], w, some l⟩ assign (beginK ⟨C.P, C.T, C.N, [fun b => b = l ∨ (E i x).W b], w, some l⟩ body (roundK E S l busy w (E i x) j) l L.length ready busy)
      ⟨putPs C.N ps.toList args σ, (L.map Ent.rd).set k (E i x) ++ [⟨l, some ready, false, none⟩], []⟩)
    (done : ∀ i y b0, fin i → K .normal ⟨σ, L.set k (E i y) ++ [dfe b0], { target := .collected b0, args := #[] } :: D⟩)
    (stop : ∀ y b0, K (exitOf (S y).2) ⟨σ, L.set k (S y).1 ++ [dfe b0], { target := .collected b0, args := #[] } :: D⟩) : CodeP C (.rangeFunc g ps assign body) K ⟨σ, L, D⟩ := by
  refine rf' hT hF hcl hg hit k E S hS x0 hk hH hps (fun l i args j x w ready busy hn => ?_) done stop
  refine (cx_ok (C := ⟨C.P, C.T, C.N, [fun b => b = l ∨ (E i x).W b], w, some l⟩) hT assign _ _ (round l i args j x w ready busy hn)).imp fun e s h => ?_
  cases e with
  | normal => exact ⟨h.1, cx_ok (C := ⟨C.P, C.T, C.N, [fun b => b = l ∨ (E i x).W b], w, some l⟩) hT body _ _ h.2⟩
  | _ => exact h.elim
end Go.Sx
end
section
namespace Go.Sx
open Go Go.RowKit
set_option linter.unusedVariables false

/-- several entries «as» one thing that is held -/
def mres (es : List Ent) : Res where
  w k := ∃ e ∈ es, e.W k
  r k := ∃ e ∈ es, e.A k
  p u := (∀ e ∈ es, e.Ok u) ∧ es.Pairwise Apart
  st u v h := fun ⟨h1, h2⟩ => ⟨fun e he => (h1 e he).same fun k hk => h k (.inr ⟨e, he, hk⟩), h2⟩
  bd u := fun ⟨h1, h2⟩ k hk => by
    rcases hk with ⟨e, he, hk⟩ | ⟨e, he, hk⟩
    · exact (h1 e he).lt hk.a
    · exact (h1 e he).lt hk
theorem mresW (es : List Ent) (k : Nat) : (rs (mres es)).W k ↔ ∃ e ∈ es, e.W k := by simp [mres]
theorem mresA (es : List Ent) (k : Nat) : (rs (mres es)).A k ↔ ∃ e ∈ es, e.A k := by
  simp only [rsA, mres]
  exact ⟨fun h => h.elim (fun ⟨e, he, h⟩ => ⟨e, he, h.a⟩) id, .inr⟩
theorem mres_apart (x : Ent) (es : List Ent) : Apart x (rs (mres es)) ↔ ∀ e ∈ es, Apart x e := by
  constructor
  · exact fun h e he k => ⟨fun h1 h2 => (h k).1 h1 ((mresA es k).2 ⟨e, he, h2⟩), fun h1 h2 => (h k).2 ((mresW es k).2 ⟨e, he, h1⟩) h2⟩
  · exact fun h k => ⟨fun h1 h2 => by obtain ⟨e, he, h2⟩ := (mresA es k).1 h2; exact (h e he k).1 h1 h2, fun h1 h2 => by obtain ⟨e, he, h1⟩ := (mresW es k).1 h1; exact (h e he k).2 h1 h2⟩
section
variable {M : Bks} {B w : World} {X Y es : List Ent}
theorem St.pack (h : St M B w (X ++ es ++ Y)) : St M B w (X ++ [rs (mres es)] ++ Y) := by
  have hp := h.apart
  rw [List.append_assoc, List.pairwise_append, List.pairwise_append] at hp
  refine ⟨h.os, h.tape, h.output, h.size, h.old, ?_, ?_, ?_⟩
  · intro e he
    simp only [List.mem_append, List.mem_singleton] at he
    rcases he with (he | rfl) | he
    · exact h.ok e (by simp [he])
    · exact (rsOk _ _).2 ⟨fun e he => h.ok e (by simp [he]), hp.2.1.1⟩
    · exact h.ok e (by simp [he])
  · intro e he k hk
    simp only [List.mem_append, List.mem_singleton] at he
    rcases he with (he | rfl) | he
    · exact h.ownW e (by simp [he]) k hk
    · obtain ⟨e, he, hk⟩ := (mresW es k).1 hk; exact h.ownW e (by simp [he]) k hk
    · exact h.ownW e (by simp [he]) k hk
  · rw [List.append_assoc, List.pairwise_append, List.pairwise_append]
    refine ⟨hp.1, ⟨by simp, hp.2.1.2.1, ?_⟩, ?_⟩
    · intro a ha b hb
      obtain rfl : a = _ := by simpa using ha
      exact ((mres_apart b es).2 fun e he => (hp.2.1.2.2 e he b hb).symm).symm
    · intro a ha b hb
      simp only [List.mem_append, List.mem_singleton] at hb
      rcases hb with rfl | hb
      · exact (mres_apart a es).2 fun e he => hp.2.2 a ha e (by simp [he])
      · exact hp.2.2 a ha b (by simp [hb])
theorem St.unpack (h : St M B w (X ++ [rs (mres es)] ++ Y)) : St M B w (X ++ es ++ Y) := by
  have hp := h.apart
  rw [List.append_assoc, List.pairwise_append, List.pairwise_append] at hp
  have hm := (rsOk _ _).1 (h.ok (rs (mres es)) (by simp))
  refine ⟨h.os, h.tape, h.output, h.size, h.old, ?_, ?_, ?_⟩
  · intro e he
    simp only [List.mem_append] at he
    rcases he with (he | he) | he
    · exact h.ok e (by simp [he])
    · exact hm.1 e he
    · exact h.ok e (by simp [he])
  · intro e he k hk
    simp only [List.mem_append] at he
    rcases he with (he | he) | he
    · exact h.ownW e (by simp [he]) k hk
    · exact h.ownW (rs (mres es)) (by simp) k ((mresW es k).2 ⟨e, he, hk⟩)
    · exact h.ownW e (by simp [he]) k hk
  · rw [List.append_assoc, List.pairwise_append, List.pairwise_append]
    refine ⟨hp.1, ⟨hm.2, hp.2.1.2.1, ?_⟩, ?_⟩
    · intro a ha b hb
      exact ((mres_apart b es).1 (hp.2.1.2.2 _ (by simp) b hb).symm a ha).symm
    · intro a ha b hb
      simp only [List.mem_append] at hb
      rcases hb with hb | hb
      · exact (mres_apart a es).1 (hp.2.2 a ha _ (by simp)) b hb
      · exact hp.2.2 a ha b (by simp [hb])
theorem St.perm {L L' : List Ent} (h : St M B w L) (hp : L'.Perm L) : St M B w L' :=
  ⟨h.os, h.tape, h.output, h.size, h.old, fun e he => h.ok e (hp.mem_iff.1 he), fun e he => h.ownW e (hp.mem_iff.1 he), (hp.pairwise_iff (fun {a b} h => Apart.symm h)).2 h.apart⟩
theorem St.pad {L : List Ent} (h : St M B w L) (n : Nat) : St M B w (List.replicate n dead ++ L) := by
  induction n with
  | zero => exact h
  | succ n ih => exact ih.deads.perm (by rw [List.replicate_succ, List.cons_append]; exact (List.perm_append_singleton _ _).symm)
theorem Sub.padL (n : Nat) (L : List Ent) : Sub L (List.replicate n Sx.dead ++ L) := by
  induction n with
  | zero => exact Sub.refl L
  | succ n ih => exact .drop ih
end
/-- the known things are named otherwise -/
theorem CodeP.from {C : Cx} {c : Code} {K : Exit → Sy → Prop} {σ : Fr} {L L' : List Ent} {D : List Deferred} (h : ∀ w, St C.M C.B w L → St C.M C.B w L') (hc : CodeP C c K ⟨σ, L', D⟩) : CodeP C c K ⟨σ, L, D⟩ := ⟨fun n a w hf hs => hc.go n a w ⟨hf.size, hf.defers, hf.slot⟩ (h w hs)⟩
theorem LoopP.from {C : Cx} {c : Code} {K : Exit → Sy → Prop} {σ : Fr} {L L' : List Ent} {D : List Deferred} (h : ∀ w, St C.M C.B w L → St C.M C.B w L') (hc : LoopP C c K ⟨σ, L', D⟩) : LoopP C c K ⟨σ, L, D⟩ := ⟨fun n a w hf hs => hc.go n a w ⟨hf.size, hf.defers, hf.slot⟩ (h w hs)⟩
/-- how a round's body is left -/
def roundM {I α β : Type} (E : I → α → List Ent) (S : β → List Ent × Code) (l : Nat) (busy : Obj) (B : World) (es : List Ent) (j : I) : Exit → Sy → Prop := fun x s => match x with
  | .normal => ∃ y, Sub (E j y ++ [⟨l, some busy, false, none⟩]) s.L ∧ ∀ e ∈ E j y, ∀ b, e.A b → (∃ f ∈ es, f.A b) ∨ B.heap.size ≤ b
  | .ret => ∃ y, (S y).2 = .ret ∧ Sub ((S y).1 ++ [⟨l, some busy, false, none⟩]) s.L ∧ ∀ e ∈ (S y).1, ∀ b, e.A b → (∃ f ∈ es, f.A b) ∨ B.heap.size ≤ b
  | .exit id => ∃ y, (S y).2 = .exit id ∧ Sub ((S y).1 ++ [⟨l, some busy, false, none⟩]) s.L ∧ ∀ e ∈ (S y).1, ∀ b, e.A b → (∃ f ∈ es, f.A b) ∨ B.heap.size ≤ b
  | _ => False
theorem hold_pack {C : Cx} {a : Act} {w : World} {s : Sy} {es : List Ent} {e : Ent} {k : Exit → Sy → Prop} {x : Exit} (hf : Fits C.N s a) (hs : St C.M C.B w s.L) (hb : Sub (es ++ [e]) s.L) (h : ∀ s', s'.L = [rs (mres es), e] → k x s') : Holds C (k x) a w :=
  ⟨⟨s.σ, [rs (mres es), e], s.D⟩, ⟨hf.size, hf.defers, hf.slot⟩, (show St C.M C.B w ([] ++ es ++ [e]) from hs.sub hb).pack, h _ rfl⟩
theorem round_pack {C : Cx} {I α β : Type} {E : I → α → List Ent} {S : β → List Ent × Code} {l : Nat} {busy : Obj} {es : List Ent} {j : I} (x : Exit) (a : Act) (w : World) (h : Holds C (roundM E S l busy C.B es j x) a w) : Holds C (roundK (fun i y => rs (mres (E i y))) (fun y => (rs (mres (S y).1), (S y).2)) l busy C.B (rs (mres es)) j x) a w := by
  obtain ⟨s, hf, hs, hr⟩ := h
  have hA : ∀ e1 : List Ent, (∀ e ∈ e1, ∀ b, e.A b → (∃ f ∈ es, f.A b) ∨ C.B.heap.size ≤ b) → ∀ b, (rs (mres e1)).A b → (rs (mres es)).A b ∨ C.B.heap.size ≤ b := by
    intro e1 h1 b hb
    obtain ⟨e, he, hb⟩ := (mresA _ _).1 hb
    exact (h1 e he b hb).imp (mresA _ _).2 id
  cases x with
  | normal => obtain ⟨y, h1, h2⟩ := hr; exact hold_pack (k := roundK (fun i y => rs (mres (E i y))) (fun y => (rs (mres (S y).1), (S y).2)) l busy C.B (rs (mres es)) j) hf hs h1 fun s' e => ⟨y, by rw [e]; exact .cons (.cons .nil), hA _ h2⟩
  | ret => obtain ⟨y, h0, h1, h2⟩ := hr; exact hold_pack (k := roundK (fun i y => rs (mres (E i y))) (fun y => (rs (mres (S y).1), (S y).2)) l busy C.B (rs (mres es)) j) hf hs h1 fun s' e => ⟨y, h0, by rw [e]; exact .cons (.cons .nil), hA _ h2⟩
  | exit id => obtain ⟨y, h0, h1, h2⟩ := hr; exact hold_pack (k := roundK (fun i y => rs (mres (E i y))) (fun y => (rs (mres (S y).1), (S y).2)) l busy C.B (rs (mres es)) j) hf hs h1 fun s' e => ⟨y, h0, by rw [e]; exact .cons (.cons .nil), hA _ h2⟩
  | _ => exact hr.elim
/-- a loop over a function, in a function of its own: the last entries are those that turn -/
theorem rfm {C : Cx} (hT : TabOk C.P C.T) (hF : C.F = none) {g : Operand} {ps : Array Tmp} {assign body : Code} {K : Exit → Sy → Prop} {σ : Fr} {L0 L : List Ent} {D : List Deferred} {gf : FuncId} {lb : Array Value} {I α β : Type} {i0 : I} {nx : I → List Value → I → Prop} {fin : I → Prop} {H : Res}
    (hcl : callable C.T gf = true) (hg : ev σ g (· = .func (.func gf) #[] lb)) (hit : Itr C.P gf lb.toList i0 nx fin H) (E : I → α → List Ent) (S : β → List Ent × Code) (hS : ∀ y, (S y).2 = .ret ∨ ∃ id, (S y).2 = .exit id) (x0 : α) (hL : (L0 ++ E i0 x0).Perm L)
    (hH : ∀ w, St C.M C.B w (L0 ++ E i0 x0) → H.p w ∧ ∀ b, H.A b → ∀ e ∈ E i0 x0, ¬ e.W b) (hps : ∀ i args j, nx i args j → args.length = ps.size)
    (round : ∀ l i args j x w ready busy, nx i args j → cx ⟨C.P, C.T, C.N, [fun b => b = l ∨ ∃ e ∈ E i x, e.W b], w, some l⟩ assign (beginK ⟨C.P, C.T, C.N, [fun b => b = l ∨ ∃ e ∈ E i x, e.W b], w, some l⟩ body (roundM E S l busy w (E i x) j) l (L0.length + (E i x).length) ready busy)
      ⟨putPs C.N ps.toList args σ, L0.map Ent.rd ++ E i x ++ [⟨l, some ready, false, none⟩], []⟩)
    (done : ∀ i y b0, fin i → K .normal ⟨σ, L0 ++ E i y ++ [dfe b0], { target := .collected b0, args := #[] } :: D⟩)
    (stop : ∀ y b0, K (exitOf (S y).2) ⟨σ, L0 ++ (S y).1 ++ [dfe b0], { target := .collected b0, args := #[] } :: D⟩) : CodeP C (.rangeFunc g ps assign body) K ⟨σ, L, D⟩ := by
  refine CodeP.from (L' := L0 ++ [rs (mres (E i0 x0))]) (fun w hs => by simpa using St.pack (Y := []) (by simpa using hs.perm hL)) ?_
  have hset : ∀ e e' : Ent, (L0 ++ [e]).set L0.length e' = L0 ++ [e'] := fun e e' => by simp
  refine CodeP.mono (K := fun x s => ∃ L', (∀ w, St C.M C.B w s.L → St C.M C.B w L') ∧ K x ⟨s.σ, L', s.D⟩) (fun x a w ⟨s, h1, h2, L', h3, h4⟩ => ⟨⟨s.σ, L', s.D⟩, ⟨h1.size, h1.defers, h1.slot⟩, h3 w h2, h4⟩) ?_
  refine rf' hT hF hcl hg hit L0.length (fun i x => rs (mres (E i x))) (fun y => (rs (mres (S y).1), (S y).2)) hS x0 (by simp) (fun w hs => ?_) hps (fun l i args j x w ready busy hn => ?_) (fun i y b0 hf => ?_) (fun y b0 => ?_)
  · have h1 := hH w (by simpa using St.unpack (Y := []) (by simpa using hs))
    exact ⟨h1.1, fun b hb hw => by obtain ⟨e, he, hw⟩ := (mresW _ _).1 hw; exact h1.2 b hb e he hw⟩
  · have hM : (fun b => b = l ∨ (rs (mres (E i x))).W b) = fun b => b = l ∨ ∃ e ∈ E i x, e.W b := by funext b; rw [mresW]
    rw [hM]
    have h1 := cx_ok (C := ⟨C.P, C.T, C.N, [fun b => b = l ∨ ∃ e ∈ E i x, e.W b], w, some l⟩) hT assign _ _ (round l i args j x w ready busy hn)
    refine CodeP.from (L' := L0.map Ent.rd ++ E i x ++ [⟨l, some ready, false, none⟩]) (fun w' hs => ?_) (h1.mono fun e a w' h => ?_)
    · have e1 : (List.map Ent.rd (L0 ++ [rs (mres (E i0 x0))])).set L0.length (rs (mres (E i x))) ++ [⟨l, some ready, false, none⟩] = L0.map Ent.rd ++ [rs (mres (E i x))] ++ [⟨l, some ready, false, none⟩] := by
        rw [List.map_append]; simp [List.set_append_right]
      rw [e1] at hs
      exact hs.unpack
    · obtain ⟨s, hf, hs, h2⟩ := h
      cases e with
      | normal =>
        obtain ⟨h3, h4⟩ := h2
        have h5 := (cx_ok (C := ⟨C.P, C.T, C.N, [fun b => b = l ∨ ∃ e ∈ E i x, e.W b], w, some l⟩) hT body _ _ h4).mono fun e a w' h => round_pack (C := ⟨C.P, C.T, C.N, [fun b => b = l ∨ ∃ e ∈ E i x, e.W b], w, some l⟩) e a w' h
        obtain ⟨hlt, hget⟩ := List.getElem?_eq_some_iff.1 h3
        have hsp : s.L = s.L.take (L0.length + (E i x).length) ++ ⟨l, some ready, false, none⟩ :: s.L.drop (L0.length + (E i x).length + 1) := by
          rw [← hget]; simp
        have hset2 : s.L.set (L0.length + (E i x).length) ⟨l, some busy, false, none⟩ = s.L.take (L0.length + (E i x).length) ++ ⟨l, some busy, false, none⟩ :: s.L.drop (L0.length + (E i x).length + 1) := List.set_eq_take_append_cons_drop.trans (if_pos hlt)
        rw [hset2] at h5
        generalize s.L.take (L0.length + (E i x).length) = A at *
        generalize s.L.drop (L0.length + (E i x).length + 1) = Z at *
        refine ⟨⟨s.σ, List.replicate (L0.length + 1) dead ++ ⟨l, some ready, false, none⟩ :: (A ++ Z), s.D⟩, ⟨hf.size, hf.defers, hf.slot⟩, ?_, ?_, ?_⟩
        · rw [hsp] at hs
          exact (hs.perm List.perm_middle.symm).pad _
        · simp
        · refine CodeP.from (L' := A ++ ⟨l, some busy, false, none⟩ :: Z) (fun w2 hs2 => ?_) h5
          have e2 : (List.replicate (L0.length + 1) dead ++ (⟨l, some ready, false, none⟩ : Ent) :: (A ++ Z)).set (L0 ++ [rs (mres (E i0 x0))]).length ⟨l, some busy, false, none⟩ = List.replicate (L0.length + 1) dead ++ (⟨l, some busy, false, none⟩ : Ent) :: (A ++ Z) := by
            rw [List.set_append_right _ _ (by simp)]; simp
          rw [e2] at hs2
          exact (hs2.sub (Sub.padL _ _)).perm List.perm_middle
      | _ => exact h2.elim
  · refine ⟨L0 ++ E i y ++ [dfe b0], fun w hs => ?_, done i y b0 hf⟩
    rw [hset] at hs
    exact hs.unpack
  · refine ⟨L0 ++ (S y).1 ++ [dfe b0], fun w hs => ?_, stop y b0⟩
    rw [hset] at hs
    exact hs.unpack
/-- append, where there is room -/
theorem apI {C : Cx} {L : List Ent} (k : Nat) (hT : TabOk C.P C.T) {t tx ty e z by' cap b : Nat} {zv : Value} {cs : Array Bool} {xs news j : List Value} {n m : Nat} {x : Value} {next : Value → List Ent → Prop}
    (ht : look C.T.rows t fun y _ => y = .sl e z) (hi : (C.P.info? e).map (fun i => (i.zero, i.size, i.bytes)) = some (some zv, z, by'))
    (hk : L[k]? = some (cl b (xs ++ j).toArray e)) (hn : xs.length = n * z) (hcap : (xs ++ j).length = cap * z) (hroom : n + m ≤ cap) (hsrc : ∀ w, St C.M C.B w L → Src C.P z tx x m news w)
    (go : next (.slice (some ⟨b, 0, none⟩) (n + m) cap) (L.set k (cl b (xs ++ news ++ j.drop news.length).toArray e))) : BiP C .append #[t, tx] ty cs [.slice (some ⟨b, 0, none⟩) n cap, x] L next := by
  refine apRun fun w hs => ?_
  obtain ⟨i0, hi0, hz0', rfl, hz2⟩ := infoOf hi
  have hsr := hsrc w hs
  have hlen : 0 + n * i0.size + news.length ≤ (xs ++ j).toArray.size := by
    rw [hsr.newsLen, List.size_toArray, hcap, Nat.zero_add, ← Nat.add_mul]; exact Nat.mul_le_mul_right _ hroom
  have hrun := run_append_room_src w t tx ty e i0 (slOf hT ht) hi0 b 0 n cap x m news hsr hroom (fun q hq => by
    rw [hs.cell hk]; have : 0 + n * i0.size + q < (xs ++ j).toArray.size := by omega
    simp
    simpa using this) (fun q hq => frozen_of_row w b _ _ e (hs.nth hk))
  refine ⟨_, _, _, hrun, ?_, go⟩
  have := hs.setCells hk (0 + n * i0.size) news hlen
  have e2 : ((xs ++ j).toArray.toList.take (0 + n * i0.size) ++ news ++ (xs ++ j).toArray.toList.drop (0 + n * i0.size + news.length)) = xs ++ news ++ j.drop news.length := by
    rw [Nat.zero_add, ← hn]; simp
  rw [e2] at this
  exact this
theorem apI1 {C : Cx} {L : List Ent} (k kn : Nat) (hT : TabOk C.P C.T) {t ty e by' cap b bn : Nat} {zv v : Value} {cs : Array Bool} {xs j : List Value} {n : Nat} {next : Value → List Ent → Prop}
    (ht : look C.T.rows t fun y _ => y = .sl e 1) (hi : (C.P.info? e).map (fun i => (i.zero, i.size, i.bytes)) = some (some zv, 1, by'))
    (hk : L[k]? = some (cl b (xs ++ j).toArray e)) (hn : xs.length = n) (hcap : (xs ++ j).length = cap) (hroom : n + 1 ≤ cap) (hkn : L[kn]? = some (cl bn #[v] e)) (h1 : v.oneCell' = true)
    (go : next (.slice (some ⟨b, 0, none⟩) (n + 1) cap) (L.set k (cl b (xs ++ [v] ++ j.drop 1).toArray e))) : BiP C .append #[t, t] ty cs [.slice (some ⟨b, 0, none⟩) n cap, .slice (some ⟨bn, 0, none⟩) 1 1] L next :=
  apI (news := [v]) k hT ht hi hk (by omega) (by omega) hroom (srcE ht hT (src kn hkn rfl) rfl (by simpa using h1)) go
theorem ap1 {C : Cx} {L : List Ent} (k kn : Nat) (hT : TabOk C.P C.T) {t ty e by' bn : Nat} {zv v : Value} {cs : Array Bool} {r : Sx.Own} {xs : List Value} {n : Nat} {next : Value → List Ent → Prop}
    (ht : look C.T.rows t fun y _ => y = .sl e 1) (hi : (C.P.info? e).map (fun i => (i.zero, i.size, i.bytes)) = some (some zv, 1, by')) (hz : zv.cells.size = 1)
    (hk : L[k]? = some (se r xs e)) (hR : Rw 1 n r xs) (hkn : L[kn]? = some (cl bn #[v] e)) (h1 : v.oneCell' = true) (hby : (n + 1 + (n + 1) / 4 + 192) * by' ≤ 281474976710656) (h63 : n + 1 ≤ maxLen)
    (go : ∀ r', Rw 1 (n + 1) r' (xs ++ [v]) → next (sv r' (n + 1)) (L.set k (se r' (xs ++ [v]) e))) : BiP C .append #[t, t] ty cs [sv r n, .slice (some ⟨bn, 0, none⟩) 1 1] L next :=
  ap (news := [v]) (m := 1) k hT ht hi hz hk hR (srcE ht hT (src kn hkn rfl) rfl (by simpa using h1)) hby h63 go
/-- a row of zeros is made -/
theorem made1 {P : Program} {t e : TypeId} {zv : Value} {by' : Nat} (w : World) (ht : P.underlying t = some (.slice e)) (hi : (P.info? e).map (fun i => (i.zero, i.size, i.bytes)) = some (some zv, 1, by')) (hzv : zv.cells = #[zv]) (l c : Nat) (hlc : l ≤ c) (hc : c * by' ≤ 100000000) (hc2 : c ≤ 100000000) :
    (Instr.makeSlice t (.int .i64 (l : Int)) (.int .i64 (c : Int))).run P w = .ok (.slice (some ⟨w.heap.size, 0, none⟩) l c) (w.alloc (.cells (List.replicate c zv).toArray e)) := by
  obtain ⟨i, hi, hz, hs, hb⟩ := infoOf hi
  have h := run_make (P := P) w t e i _ ht hi hz .i64 .i64 (l : Int) (c : Int) (by omega) (by omega) (by rw [hb, Int.mul_comm, ← Int.natCast_mul, Nat.mul_comm]; first | omega | (rw [Nat.mul_comm]; omega)) (by omega)
  rw [hs] at h
  simp only [Int.toNat_natCast, Nat.mul_one] at h
  rw [h]
  congr 2
  simp only [madeCells, hzv]
  congr 1
  apply Array.ext
  · simp
  · intro i h1 h2
    simp [Nat.mod_one]
theorem St.reads {w : World} {L : List Ent} (h : ∀ e ∈ L, e.Ok w ∧ ∀ k, ¬ e.W k) : St [] w w L :=
  St.from w [] L (fun e he => ⟨(h e he).1, fun k hk => absurd hk ((h e he).2 k)⟩) (List.pairwise_of_forall_mem_list fun a ha b hb k => ⟨fun h1 => absurd h1 ((h a ha).2 k), fun h1 => absurd h1 ((h b hb).2 k)⟩)
/-- one cell is stored, and what then stands there -/
theorem s1e (k : Nat) (e : Array Value) {C : Cx} {L : List Ent} {b o : Nat} {c : Array Value} {t t' : TypeId} {v : Value} {next : List Ent → Prop} (hk : L[k]? = some (cl b c t')) (ho : o < c.size) (he : c.setIfInBounds o v = e) (go : next (L.set k (cl b e t')))
    (h1 : sizeIs C.P t 1 = true := by kernel_rfl) (h2 : v.oneCell' = true := by rfl) (h3 : v.cells = #[v] := by rfl) : StP C t L b o v next := by
  subst he; exact s1 k hk ho go h1 h2 h3
/-- a call that gives one of several values -/
theorem ce {C : Cx} {L : List Ent} {α : Type} {Φ : α → Prop} {v : α → Value} {g : FuncId} {vs : List Value} {next : Value → List Ent → Prop}
    (h : ∀ w, St C.M C.B w L → Calls C.P g vs.toArray w fun e w' => ∃ x, Φ x ∧ e = .returned (v x) ∧ Below w.heap.size w w') (go : ∀ x, Φ x → next (v x) L) : CallP C g vs L next :=
  cg h fun w e w' hs ⟨x, hx, he, hb⟩ => ⟨_, _, he, hs.call hb, go x hx⟩
/-- a region that draws ends in one state -/
theorem cut {C : Cx} {id : Nat} {ops : Array Oper} {K : Exit → Sy → Prop} {s : Sy} {α : Type} (J : α → Prop) (f : α → Sy) (h : DrawP C id ops (fun e s' => match e with | .normal => ∃ x, J x ∧ Le (f x) s' | _ => False) s) (go : ∀ x, J x → K .normal (f x)) : DrawP C id ops K s := by
  refine ⟨fun n a w hf hs => wpIn_mono (h.go n a w hf hs) fun e a' w' hq => ?_⟩
  obtain ⟨s', hf', hs', hk⟩ := hq
  cases e with
  | normal => obtain ⟨x, hx, hle⟩ := hk; exact ⟨f x, hf'.le hle, hs'.sub hle.l, go x hx⟩
  | _ => exact hk.elim
/-- the same, where what is known may stand in another order -/
theorem cutp {C : Cx} {id : Nat} {ops : Array Oper} {K : Exit → Sy → Prop} {s : Sy} {α : Type} (J : α → Prop) (f : α → Sy)
    (h : DrawP C id ops (fun e s' => match e with | .normal => ∃ x, J x ∧ leF (f x).σ s'.σ ∧ (∃ L', (f x).L.Perm L' ∧ Sub L' s'.L) ∧ (f x).D = s'.D | _ => False) s) (go : ∀ x, J x → K .normal (f x)) : DrawP C id ops K s := by
  refine ⟨fun n a w hf hs => wpIn_mono (h.go n a w hf hs) fun e a' w' hq => ?_⟩
  obtain ⟨s', hf', hs', hk⟩ := hq
  cases e with
  | normal => obtain ⟨x, hx, hle, ⟨L', hp, hsub⟩, hd⟩ := hk; exact ⟨f x, ⟨hf'.size, hf'.defers.trans hd.symm, fun i v hv => hf'.slot i v (leF_get hle i v hv)⟩, (hs'.sub hsub).perm hp, go x hx⟩
  | _ => exact hk.elim
end Go.Sx
end
section
namespace Go.Sx
open Go Go.RowKit
set_option linter.unusedVariables false
/-- one block has turned; what there was besides stands -/
structure Upd (b : Nat) (c : Array Value) (t : TypeId) (w w' : World) : Prop where
  os : w'.os = w.os
  tape : w'.tape = w.tape
  output : w'.output = w.output
  size : w.heap.size ≤ w'.heap.size
  old : ∀ k, k < w.heap.size → k ≠ b → w'.heap[k]? = w.heap[k]?
  ok : w'.heap[b]? = some (.cells c t (0, 0))
theorem St.onlyU {w : World} {b : Nat} {c : Array Value} {t : TypeId} (h : w.heap[b]? = some (.cells c t (0, 0))) : St [bl b] w w [cl b c t] :=
  St.from w _ _ (fun e he => by
    obtain rfl : e = cl b c t := by simpa using he
    exact ⟨by simpa using h, fun k hk => by simp at hk; simp [hk]⟩) (by simp)
theorem St.updU {w w' : World} {b : Nat} {c : Array Value} {t : TypeId} {L : List Ent} (h : St [bl b] w w' (cl b c t :: L)) : Upd b c t w w' :=
  ⟨h.os, h.tape, h.output, h.size, fun k hk hn => h.old k hk (by simpa using hn), h.nth (k := 0) rfl⟩
theorem Upd.refl {w : World} {b : Nat} {c : Array Value} {t : TypeId} (h : w.heap[b]? = some (.cells c t (0, 0))) : Upd b c t w w := ⟨rfl, rfl, rfl, Nat.le_refl _, fun _ _ _ => rfl, h⟩
variable {C : Cx} {L : List Ent}
/-- a call that turns a block -/
theorem cU (k : Nat) {g : FuncId} {vs : List Value} {α : Type} {Φ : α → Prop} {v : α → Value} {b : Nat} {c0 : Array Value} {c : α → Array Value} {t : TypeId} {next : Value → List Ent → Prop} (hk : L[k]? = some (cl b c0 t))
    (h : ∀ w, w.heap[b]? = some (.cells c0 t (0, 0)) → Calls C.P g vs.toArray w fun e w' => ∃ x, Φ x ∧ e = .returned (v x) ∧ Upd b (c x) t w w') (go : ∀ x, Φ x → next (v x) (L.set k (cl b (c x) t))) : CallP C g vs L next :=
  ⟨fun w hs => (h w (hs.nth hk)).mono fun e w' ⟨x, hx, he, hu⟩ => ⟨_, _, he, hs.set hk hu.size hu.ok hu.old hu.os hu.tape hu.output, go x hx⟩⟩
/-- the same, where one thing alone comes of it -/
theorem cU1 (k : Nat) {g : FuncId} {vs : List Value} {v : Value} {b : Nat} {c0 c : Array Value} {t : TypeId} {next : Value → List Ent → Prop} (hk : L[k]? = some (cl b c0 t))
    (h : ∀ w, w.heap[b]? = some (.cells c0 t (0, 0)) → Calls C.P g vs.toArray w fun e w' => e = .returned v ∧ Upd b c t w w') (go : next v (L.set k (cl b c t))) : CallP C g vs L next :=
  ⟨fun w hs => (h w (hs.nth hk)).mono fun e w' ⟨he, hu⟩ => ⟨_, _, he, hs.set hk hu.size hu.ok hu.old hu.os hu.tape hu.output, go⟩⟩
/-- a function that turns a block: its body -/
theorem enterU {P : Program} {T : Tab} (hT : TabOk P T) {g : FuncId} {fn : Func} {cd : Code} (hf : P.funcs[g]? = some fn) (hb : fn.body = some cd) {N : Nat} (hN : fn.ntmps = N) {vs : List Value} (hle : Nat.ble vs.length N = true) {w : World} {b : Nat} {c0 c : Array Value} {t : TypeId} {v : Value}
    (hw : w.heap[b]? = some (.cells c0 t (0, 0))) (h : cx ⟨P, T, N, [bl b], w, none⟩ cd (retK ⟨P, T, N, [bl b], w, none⟩ fn fun u w' => u = v ∧ Upd b c t w w') ⟨par 0 vs, [cl b c0 t], []⟩) : Calls P g vs.toArray w fun e w' => e = .returned v ∧ Upd b c t w w' :=
  (enter hT hf hb hN hle (St.onlyU hw) h).mono fun e w' ⟨u, he, hu, h2⟩ => ⟨by rw [he, hu], h2⟩
theorem enterUx {P : Program} {T : Tab} (hT : TabOk P T) {g : FuncId} {fn : Func} {cd : Code} (hf : P.funcs[g]? = some fn) (hb : fn.body = some cd) {N : Nat} (hN : fn.ntmps = N) {vs : List Value} (hle : Nat.ble vs.length N = true) {w : World} {b : Nat} {c0 : Array Value} {α : Type} {Φ : α → Prop} {c : α → Array Value} {t : TypeId} {v : α → Value}
    (hw : w.heap[b]? = some (.cells c0 t (0, 0))) (h : cx ⟨P, T, N, [bl b], w, none⟩ cd (retK ⟨P, T, N, [bl b], w, none⟩ fn fun u w' => ∃ x, Φ x ∧ u = v x ∧ Upd b (c x) t w w') ⟨par 0 vs, [cl b c0 t], []⟩) : Calls P g vs.toArray w fun e w' => ∃ x, Φ x ∧ e = .returned (v x) ∧ Upd b (c x) t w w' :=
  (enter hT hf hb hN hle (St.onlyU hw) h).mono fun e w' ⟨u, he, x, hx, hu, h2⟩ => ⟨x, hx, by rw [he, hu], h2⟩
/-- it returns -/
theorem rtU {P : Program} {T : Tab} {N : Nat} {w : World} {b : Nat} {c : Array Value} {t : TypeId} {v0 v : Value} {L : List Ent} (hv : v = v0) : RetP ⟨P, T, N, [bl b], w, none⟩ (fun u w' => u = v0 ∧ Upd b c t w w') v (cl b c t :: L) := ⟨fun w' hs => ⟨hv, hs.updU⟩⟩
theorem rtUx {P : Program} {T : Tab} {N : Nat} {w : World} {b : Nat} {α : Type} {Φ : α → Prop} {c : α → Array Value} {t : TypeId} {vf : α → Value} {v : Value} {L : List Ent} (x : α) (hx : Φ x) (hv : v = vf x) : RetP ⟨P, T, N, [bl b], w, none⟩ (fun u w' => ∃ x, Φ x ∧ u = vf x ∧ Upd b (c x) t w w') v (cl b (c x) t :: L) := ⟨fun w' hs => ⟨x, hx, hv, hs.updU⟩⟩
end Go.Sx
end
section
namespace Go.Sx
open Go Go.RowKit
set_option linter.unusedVariables false
variable {C : Cx} {ops : Array Oper} {L0 : List Ent} {Q : Act → World → Prop}

def Inc (σ τ : Fr) : Prop := ∀ i v, get σ i = some v → get τ i = some v
theorem Inc.put {σ τ : Fr} (h : Inc σ τ) (N : Nat) (d : Option Nat) (v : Value) : Inc (put N d v σ) (put N d v τ) := fun i u hu => by
  rw [get_put] at hu ⊢
  split at hu
  · rename_i hc; rw [if_pos hc]; exact hu
  · rename_i hc; rw [if_neg hc]; exact h i u hu
theorem dG_mono (n : Nat) : ∀ (l : Array Bool) (s s' : Sy), Sub L0 s'.L → Inc s.σ s'.σ → (∀ w, St C.M C.B w s'.L → St C.M C.B w s.L) → s.D = s'.D → dG C ops L0 [] Q n l s → dG C ops L0 [] Q n l s' := by
  have fit : ∀ (s s' : Sy) (a : Act), Inc s.σ s'.σ → s.D = s'.D → Fits C.N s' a → Fits C.N s a := fun s s' a hi hd hf => ⟨hf.size, hf.defers.trans hd.symm, fun i v hv => hf.slot i v (hi i v hv)⟩
  induction n with
  | zero => intro l s s' _ hi hL hD h; exact ⟨h.1, fun a w hf hs => h.2 a w (fit s s' a hi hD hf) (hL w hs)⟩
  | succ n ih =>
    intro l s s' hA hi hL hD h
    refine ⟨fun h0 a w hf hs => h.1 h0 a w (fit s s' a hi hD hf) (hL w hs), fun j hj o ho a w hf hs => ?_⟩
    have h1 := h.2 j hj o ho a w (fit s s' a hi hD hf) (hL w hs)
    refine ⟨fun hw => Fin.mono (fun v L' hk => ?_) (h1.1 hw), fun hw => ?_⟩
    · exact ⟨hk.1, ih _ ⟨put C.N o.dst v s.σ, L', s.D⟩ ⟨put C.N o.dst v s'.σ, L', s'.D⟩ (hk.1 rfl) (hi.put _ _ _) (fun _ h => h) hD hk.2⟩
    · exact ⟨fun _ => hA, ih _ ⟨put C.N o.dst undef s.σ, s.L, s.D⟩ ⟨put C.N o.dst undef s'.σ, s'.L, s'.D⟩ hA (hi.put _ _ _) hL hD (h1.2 hw).2⟩
/-- what may be said of a set of operations that are done -/
structure GR (C : Cx) (ops : Array Oper) (L0 : List Ent) (K : Sy → Prop) (T : Nat → Array Bool → Sy → Prop) : Prop where
  fin : ∀ m l s, Region.ready .any ops l = [] → K s → T m l s
  one : ∀ m l s i, Region.ready .any ops l = [i] → Sub L0 s.L → dn C ops L0 [] i (T m (l.setIfInBounds i true)) s → T (m + 1) l s
  two : ∀ m l s i j, Region.ready .any ops l = [i, j] → Sub L0 s.L → dn C ops L0 [] i (T m (l.setIfInBounds i true)) s → dn C ops L0 [] j (T m (l.setIfInBounds j true)) s → T (m + 1) l s
  three : ∀ m l s i j k, Region.ready .any ops l = [i, j, k] → Sub L0 s.L → dn C ops L0 [] i (T m (l.setIfInBounds i true)) s → dn C ops L0 [] j (T m (l.setIfInBounds j true)) s → dn C ops L0 [] k (T m (l.setIfInBounds k true)) s → T (m + 1) l s
  four : ∀ m l s i j k q, Region.ready .any ops l = [i, j, k, q] → Sub L0 s.L → dn C ops L0 [] i (T m (l.setIfInBounds i true)) s → dn C ops L0 [] j (T m (l.setIfInBounds j true)) s → dn C ops L0 [] k (T m (l.setIfInBounds k true)) s → dn C ops L0 [] q (T m (l.setIfInBounds q true)) s → T (m + 1) l s
  mono : ∀ m l s s', Sub L0 s'.L → leF s.σ s'.σ → (∃ L', s.L.Perm L' ∧ Sub L' s'.L) → s.D = s'.D → T m l s → T m l s'
theorem GR.go {K : Sy → Prop} {T : Nat → Array Bool → Sy → Prop} (g : GR C ops L0 K T) {m : Nat} {l : Array Bool} {s s' : Sy} (h : T m l s) (hs : Sub L0 s'.L) (hle : leF s.σ s'.σ) (hp : ∃ L', s.L.Perm L' ∧ Sub L' s'.L) (hd : s.D = s'.D) : T m l s' := g.mono m l s s' hs hle hp hd h
theorem gr_dG (hT : TabOk C.P C.T) (K : Sy → Prop) : GR C ops L0 K (dG C ops L0 [] (Holds C K)) := by
  have step : ∀ (n : Nat) (l : Array Bool) (s : Sy) (i : Nat), Sub L0 s.L → dn C ops L0 [] i (dG C ops L0 [] (Holds C K) n (l.setIfInBounds i true)) s → ∀ o, ops[i]? = some o → ∀ a w, Fits C.N s a → St C.M C.B w s.L →
      StepG C ops o a w s.L fun u L' => (memN i [] = false → Sub L0 L') ∧ dG C ops L0 [] (Holds C K) n (l.setIfInBounds i true) ⟨put C.N o.dst u s.σ, L', s.D⟩ :=
    fun n l s i hi h => dn_ok hT h (fun s' _ h => h) (.inl hi)
  refine ⟨fun m l s h0 hk => ?_, fun m l s i hr hs h => ?_, fun m l s i j hr hs h1 h2 => ?_, fun m l s i j k hr hs h1 h2 h3 => ?_, fun m l s i j k q0 hr hs h1 h2 h3 h4 => ?_, fun m l s s' hA hle ⟨L', hp, hs⟩ hD h => dG_mono m l s s' hA (leF_get hle) (fun w hw => (hw.sub hs).perm hp) hD h⟩
  · cases m with
    | zero => exact ⟨h0, fun a w hf hs => ⟨s, hf, hs, hk⟩⟩
    | succ n => exact ⟨fun _ a w hf hs => ⟨s, hf, hs, hk⟩, fun j hj => by rw [h0] at hj; cases hj⟩
  · refine ⟨fun h0 => (by rw [hr] at h0; cases h0), fun q hq => ?_⟩
    rw [hr] at hq
    obtain rfl : q = i := by simpa using hq
    exact step m l s q hs h
  · refine ⟨fun h0 => (by rw [hr] at h0; cases h0), fun q hq => ?_⟩
    rw [hr] at hq
    have : q = i ∨ q = j := by simpa using hq
    rcases this with rfl | rfl
    · exact step m l s q hs h1
    · exact step m l s q hs h2
  · refine ⟨fun h0 => (by rw [hr] at h0; cases h0), fun q hq => ?_⟩
    rw [hr] at hq
    have : q = i ∨ q = j ∨ q = k := by simpa using hq
    rcases this with rfl | rfl | rfl
    · exact step m l s q hs h1
    · exact step m l s q hs h2
    · exact step m l s q hs h3
  · refine ⟨fun h0 => (by rw [hr] at h0; cases h0), fun q hq => ?_⟩
    rw [hr] at hq
    have : q = i ∨ q = j ∨ q = k ∨ q = q0 := by simpa using hq
    rcases this with rfl | rfl | rfl | rfl
    · exact step m l s q hs h1
    · exact step m l s q hs h2
    · exact step m l s q hs h3
    · exact step m l s q hs h4
def odT : List Nat → Od
  | [] => .nil
  | i :: l => .t i (odT l)
def lst (l : Array Bool) : List Nat → Array Bool
  | [] => l
  | i :: ts => lst (l.setIfInBounds i true) ts
def tsOk (ops : Array Oper) : List Nat → Array Bool → Bool
  | [], _ => true
  | i :: ts, l => tOk ops [] l i && tsOk ops ts (l.setIfInBounds i true)
theorem dx_ts (hT : TabOk C.P C.T) (hsel : Region.noSelect ops = true) {K : Sy → Prop} (ts : List Nat) : ∀ (n : Nat) (l : Array Bool) (s : Sy), Shut ops l → tsOk ops ts l = true → Sub L0 s.L →
    dx C ops L0 [] (odT ts) (dG C ops L0 [] (Holds C K) n (lst l ts)) s → dG C ops L0 [] (Holds C K) (n + ts.length) l s := by
  induction ts with
  | nil => intro n l s _ _ _ h; exact h
  | cons i ts ih =>
    intro n l s hsh hok hsb h
    simp only [tsOk, Bool.and_eq_true] at hok
    obtain ⟨hk, hr⟩ := hok
    simp only [tOk, Bool.and_eq_true, Bool.not_eq_true'] at hk
    obtain ⟨⟨⟨k1, k2⟩, k3⟩, k4⟩ := hk
    obtain ⟨σ, L, D⟩ := s
    change dt C ops L0 i (dx C ops L0 [] (odT ts) (dG C ops L0 [] (Holds C K) n (lst (l.setIfInBounds i true) ts))) ⟨σ, L, D⟩ at h
    simp only [dt, opAt, putC_eq] at h
    split at h
    · rename_i o ho
      have hf' : ∀ j, memN j [] = true → (ops[j]?).isSome = true → Dep ops i j := fun j hj hs => waits_dep (allN_mem k4 hj) hs
      have hrd : i ∈ Region.ready .any ops l := by simpa using k2
      obtain ⟨b, hp, hq, hb⟩ := gd_ok (C := C) (s := ⟨σ, L, D⟩) h
      rw [List.length_cons, ← Nat.add_assoc]
      cases b with
      | false => exact dG_take (v := undef) ho hsel k3 hf' _ l _ hsh (Region.free_spec ho k1) hrd hsb (fun a ha => .inr ⟨hb a ha, rfl⟩) (ih n _ _ (hsh.next hrd) hr hsb (hq rfl))
      | true =>
        have key : ∃ v, dx C ops L0 [] (odT ts) (dG C ops L0 [] (Holds C K) n (lst (l.setIfInBounds i true) ts)) ⟨put C.N o.dst v σ, L, D⟩ ∧ ∀ a, Fits C.N ⟨σ, L, D⟩ a → ∀ w, St C.M C.B w L0 → FinT C v w ((execOp a.eval o).run C.P w) := by
          obtain ⟨v, hv, hr'⟩ := tkV_ok hT (fit_canon σ) (hp rfl)
          refine ⟨v, hv, fun a ha w hs => ?_⟩
          rw [execOp_congr o (fun cs b => Region.noSelect_spec hsel i o cs b ho) (fun x hx => canon_eq ha (tkV_known (hp rfl) x hx))]
          exact hr' w hs
        obtain ⟨v, hv, hr'⟩ := key
        exact dG_take (v := v) ho hsel k3 hf' _ l _ hsh (Region.free_spec ho k1) hrd hsb (fun a ha => .inl ⟨hb a ha, hr' a ha⟩) (ih n _ _ (hsh.next hrd) hr hsb hv)
    · exact h.elim
/-- a region that draws: those of ts first, then «as» a graph -/
theorem drg (L0 : List Ent) (ts : List Nat) (m : Nat) (hT : TabOk C.P C.T) {id : Nat} {K : Exit → Sy → Prop} {s : Sy} (hm : C.P.follows .mixedOrders = true) (hn : m + ts.length = ops.size)
    (hok : (Region.noSelect ops && tsOk ops ts (Array.replicate ops.size false)) = true) (hL : Sub L0 s.L)
    (h : ∀ T : Nat → Array Bool → Sy → Prop, GR C ops L0 (K .normal) T → dx C ops L0 [] (odT ts) (T m (lst (Array.replicate ops.size false) ts)) s) : DrawP C id ops K s := by
  simp only [Bool.and_eq_true] at hok
  obtain ⟨h1, h3⟩ := hok
  refine ⟨fun n a w hf hs => ?_⟩
  have hsh : Shut ops (Array.replicate ops.size false) := by
    intro j o ho hj
    have hlt : j < ops.size := (Array.getElem?_eq_some_iff.1 ho).1
    simp [hlt] at hj
  have h4 := dx_ts hT h1 ts m (Array.replicate ops.size false) s hsh h3 hL (h _ (gr_dG hT (K .normal)))
  rw [hn] at h4
  exact wpIn_region_any hm (dG_any (Q' := Qof C K) (fun a w hq => hq) _ _ _ h4 a _ hf hs.drew)
theorem permLast {α : Type} (X1 : List α) (e : α) (X2 : List α) : (X1 ++ e :: X2).Perm (X1 ++ X2 ++ [e]) := by
  rw [List.append_assoc]
  exact (List.perm_append_comm (l₁ := [e]) (l₂ := X2)).append_left X1
end Go.Sx
end
section
namespace Go.Proofs.YtpegkoklmhccjaaDoor
open Go.RowKit Go.Sx
set_option linter.unusedVariables false
abbrev Bs := List UInt8
abbrev TRd : Nat := 60
abbrev pj (b : Nat) : Value := .pointer (some ⟨b, 0, none⟩)
abbrev sj (s : Bs) : Value := .string ⟨s.toArray⟩
/-- a reader: what is left, whether it is bad, how deep it stands -/
abbrev rdC (s : Bs) (bad : Bool) (d : Int) : Array Value := #[sj s, .bool bad, .int .i64 d]
def blk (c : UInt8) : Bool := c == 32 || c == 9 || c == 10 || c == 13
def ws : Bs → Bs
  | [] => []
  | c :: s => if blk c then ws s else c :: s
theorem ws_len (s : Bs) : (ws s).length ≤ s.length := by
  induction s with
  | nil => exact Nat.le_refl _
  | cons c s ih => unfold ws; split; · exact Nat.le_succ_of_le ih
                   · exact Nat.le_refl _
theorem str_ext (s : Bs) (l h : Nat) : (⟨s.toArray⟩ : ByteArray).extract l h = ⟨((s.take h).drop l).toArray⟩ := by
  apply ByteArray.ext
  apply Array.ext'
  simp [ByteArray.data_extract, List.extract_eq_take_drop, List.drop_take]
/-- a sign of a text -/
theorem chL {s : Bs} {i : Int} (j : Nat) {c : UInt8} (hi : i = j) (hj : s[j]? = some c) {next : Value → Prop} (go : next (.int .u8 c.toNat)) : ChP ⟨s.toArray⟩ i next := by
  subst hi
  obtain ⟨h1, h2⟩ := List.getElem?_eq_some_iff.1 hj
  refine ⟨by omega, by simpa [ByteArray.size] using h1, ?_⟩
  have e : ((⟨s.toArray⟩ : ByteArray)[((j : Nat) : Int).toNat]'(by simpa [ByteArray.size] using h1)) = c := by
    show (s.toArray)[((j : Nat) : Int).toNat]'(by simpa using h1) = c
    simpa using h2
  rw [e]; exact go
/-- the rest of a text -/
theorem slL {s : Bs} (l : Nat) (hl : l ≤ s.length) {next : Value → Prop} {fb : Prop} {x : Int} (hx : x = l) (go : next (sj (s.drop l))) : SliP .str (sj s) (some x) none none next fb := by
  subst hx
  refine ⟨.mk l s.length s.length ?_ ?_ rfl hl (Nat.le_refl _) ?_ (fun _ => rfl) ?_⟩
  · simp [oi, ByteArray.size]
  · simp [oi, ByteArray.size]
  · simp [ByteArray.size]
  · rw [str_ext, List.take_of_length_le (Nat.le_refl _)]; exact go
theorem slT {s : Bs} (h : Nat) (hh : h ≤ s.length) {next : Value → Prop} {fb : Prop} {x : Int} (hx : x = h) (go : next (sj (s.take h))) : SliP .str (sj s) none (some x) none next fb := by
  subst hx
  refine ⟨.mk 0 h s.length ?_ ?_ rfl (Nat.zero_le _) hh ?_ (fun e => by cases e) ?_⟩
  · simp [oi, ByteArray.size]
  · simp [oi]
  · simp [ByteArray.size]
  · rw [str_ext, List.drop_zero]; exact go
theorem str_size (s : Bs) : (⟨s.toArray⟩ : ByteArray).size = s.length := rfl
theorem list_beq (a b : List UInt8) : ((ByteArray.mk a.toArray).toList == (ByteArray.mk b.toArray).toList) = decide (a = b) := by rw [Bool.eq_iff_iff]; simp
theorem ne0 (c : UInt8) (t : Bs) : ((ByteArray.mk (c :: t).toArray).toList == (ByteArray.mk #[]).toList) = false := by rw [show (#[] : Array UInt8) = ([] : Bs).toArray from rfl, list_beq]; simp
theorem ne0b (c : UInt8) (t : Bs) : (((ByteArray.mk (c :: t).toArray).toList == (ByteArray.mk #[]).toList) == false) = true := by rw [ne0]; rfl
theorem ne0t (c : UInt8) (t : Bs) : (((ByteArray.mk (c :: t).toArray).toList == (ByteArray.mk #[]).toList) == true) = false := by rw [ne0]; rfl
/-- the signs that are blanks, so far -/
def asA (i : Nat) : Array Value := ((List.range 256).map fun j => Value.bool (([32, 9, 10, 13].take i).contains j)).toArray
theorem asA_at (c : UInt8) : (asA 4)[c.toNat]? = some (.bool (blk c)) := by
  have h : (List.range 256).all (fun n => match (asA 4)[n]? with | some (.bool b) => b == blk (UInt8.ofNat n) | _ => false) = true := by decide +kernel
  have h1 := List.all_eq_true.1 h c.toNat (by simpa using c.toNat_lt)
  rw [UInt8.ofNat_toNat] at h1
  split at h1
  · rename_i b hb; rw [hb]; simpa using h1
  · cases h1
abbrev zas : Array Value := #[.bool false, .bool false, .bool false, .bool false, .bool false, .bool false, .bool false, .bool false, .bool false, .bool false, .bool false, .bool false, .bool false, .bool false, .bool false, .bool false, .bool false, .bool false, .bool false, .bool false, .bool false, .bool false, .bool false, .bool false, .bool false, .bool false, .bool false, .bool false, .bool false, .bool false, .bool false, .bool false, .bool false, .bool false, .bool false, .bool false, .bool false, .bool false, .bool false, .bool false, .bool false, .bool false, .bool false, .bool false, .bool false, .bool false, .bool false, .bool false, .bool false, .bool false, .bool false, .bool false, .bool false, .bool false, .bool false, .bool false, .bool false, .bool false, .bool false, .bool false, .bool false, .bool false, .bool false, .bool false, .bool false, .bool false, .bool false, .bool false, .bool false, .bool false, .bool false, .bool false, .bool false, .bool false, .bool false, .bool false, .bool false, .bool false, .bool false, .bool false, .bool false, .bool false, .bool false, .bool false, .bool false, .bool false, .bool false, .bool false, .bool false, .bool false, .bool false, .bool false, .bool false, .bool false, .bool false, .bool false, .bool false, .bool false, .bool false, .bool false, .bool false, .bool false, .bool false, .bool false, .bool false, .bool false, .bool false, .bool false, .bool false, .bool false, .bool false, .bool false, .bool false, .bool false, .bool false, .bool false, .bool false, .bool false, .bool false, .bool false, .bool false, .bool false, .bool false, .bool false, .bool false, .bool false, .bool false, .bool false, .bool false, .bool false, .bool false, .bool false, .bool false, .bool false, .bool false, .bool false, .bool false, .bool false, .bool false, .bool false, .bool false, .bool false, .bool false, .bool false, .bool false, .bool false, .bool false, .bool false, .bool false, .bool false, .bool false, .bool false, .bool false, .bool false, .bool false, .bool false, .bool false, .bool false, .bool false, .bool false, .bool false, .bool false, .bool false, .bool false, .bool false, .bool false, .bool false, .bool false, .bool false, .bool false, .bool false, .bool false, .bool false, .bool false, .bool false, .bool false, .bool false, .bool false, .bool false, .bool false, .bool false, .bool false, .bool false, .bool false, .bool false, .bool false, .bool false, .bool false, .bool false, .bool false, .bool false, .bool false, .bool false, .bool false, .bool false, .bool false, .bool false, .bool false, .bool false, .bool false, .bool false, .bool false, .bool false, .bool false, .bool false, .bool false, .bool false, .bool false, .bool false, .bool false, .bool false, .bool false, .bool false, .bool false, .bool false, .bool false, .bool false, .bool false, .bool false, .bool false, .bool false, .bool false, .bool false, .bool false, .bool false, .bool false, .bool false, .bool false, .bool false, .bool false, .bool false, .bool false, .bool false, .bool false, .bool false, .bool false, .bool false, .bool false, .bool false, .bool false, .bool false, .bool false, .bool false, .bool false, .bool false, .bool false, .bool false, .bool false, .bool false, .bool false, .bool false, .bool false, .bool false, .bool false, .bool false, .bool false]
set_option maxRecDepth 100000 in
theorem aset_any (w : World) : Calls Tryd.prog 54 ([.string ⟨#[32, 9, 10, 13]⟩] : List Value).toArray w fun e w' => e = .returned (.tuple #[.agg (asA 4), .bool true]) ∧ Below w.heap.size w w' := by
  have hz : zas = asA 0 := by kernel_rfl
  refine enterV tab_ok Tryd.func54 rfl Tryd.ntmps54 rfl (St.start w) ?_
  intro b2
  refine lp tab_ok (fun i : Nat => i ≤ 4) (fun i => ⟨[(0, .string ⟨#[32, 9, 10, 13]⟩), (2, pj b2), (4, .int .i64 (i : Int))], [cl b2 (asA i) 78], []⟩) (fun i => 4 - i) 0 (by decide) (by rw [← hz]; exact ⟨⟨rfl, rfl, rfl, trivial⟩, .cons .nil, rfl⟩) ?_
  intro i hi
  refine cd (fun h => ?_) (fun h => ?_)
  · have h4 : i < 4 := by have : ((i : Nat) : Int) < 4 := h; omega
    obtain ⟨c, hc, hc2, hs⟩ : ∃ c : UInt8, [32, 9, 10, 13][i]? = some c ∧ c.toNat < 128 ∧ (asA i).setIfInBounds c.toNat (.bool true) = asA (i + 1) := by
      rcases i with _ | _ | _ | _ | i
      · exact ⟨32, rfl, by decide, by kernel_rfl⟩
      · exact ⟨9, rfl, by decide, by kernel_rfl⟩
      · exact ⟨10, rfl, by decide, by kernel_rfl⟩
      · exact ⟨13, rfl, by decide, by kernel_rfl⟩
      · omega
    refine chL i rfl hc ?_
    refine cf (decide_eq_false (by omega)) ?_
    refine ⟨by omega, by omega, ?_⟩
    have ha : nad 0 (nmu (Int.toNat (c.toNat : Int)) 1) = c.toNat := by rw [nad_eq, nmu_eq]; simp
    refine s1e 0 (asA (i + 1)) rfl (by rw [ha]; unfold asA; simp; omega) (by rw [ha]; exact hs) ?_
    refine .as ((i + 1 : Nat) : Int) (by omega) (by simp only [mn]; omega) (by simp only [mx]; omega) ?_
    exact ⟨i + 1, by omega, by omega, ⟨rfl, rfl, rfl, trivial⟩, .cons .nil, rfl⟩
  · have h4 : i = 4 := by have : ¬ ((i : Nat) : Int) < 4 := h; omega
    subst h4
    have hsz : (asA 4).size = 256 := by unfold asA; simp
    refine ldN 0 rfl hsz ?_
    refine sN 0 rfl rfl ?_ ?_ (by rw [hsz]; kernel_rfl)
    · unfold asA; simp [Value.oneCell']
    refine ldN 0 rfl hsz ?_
    exact rt rfl
set_option maxRecDepth 100000 in
theorem trimA_any (s : Bs) (hl : s.length ≤ 100000) (b : Nat) (w : World) (h : w.heap[b]? = some (.cells (asA 4) 78 (0, 0))) : Calls Tryd.prog 55 ([sj s, pj b] : List Value).toArray w fun e w' => e = .returned (sj (ws s)) ∧ Below w.heap.size w w' := by
  refine enterV tab_ok Tryd.func55 rfl Tryd.ntmps55 rfl (St.reads1 h) ?_
  refine lp tab_ok (fun t : Bs => t.length ≤ 100000 ∧ ws t = ws s) (fun t => ⟨[(0, sj t), (1, pj b)], [cr b (asA 4) 78], []⟩) (fun t => t.length) s ⟨hl, rfl⟩ ⟨⟨rfl, rfl, trivial⟩, .cons .nil, rfl⟩ ?_
  rintro t ⟨hl, ht⟩
  cases t with
  | nil =>
    refine cf rfl ?_
    exact rt (by rw [← ht]; rfl)
  | cons c t =>
    refine ct (decide_eq_true (by rw [str_size]; simp)) ?_
    refine chL 0 rfl rfl ?_
    refine inl tab_ok Tryd.func71 rfl Tryd.ntmps71 rfl ?_
    have := c.toNat_lt
    refine ⟨by omega, by omega, ?_⟩
    refine ld1 0 rfl (v := .bool (blk c)) (by rw [nad_eq, nmu_eq]; simpa using asA_at c) ?_
    refine bk ?_
    cases hb : blk c with
    | true =>
      refine cf rfl ?_
      refine slL 1 (by simp) rfl ?_
      exact ⟨t, ⟨by simp at hl; omega, by rw [← ht, ws, if_pos hb]⟩, by simp, ⟨rfl, rfl, trivial⟩, .cons .nil, rfl⟩
    | false =>
      refine ct rfl ?_
      exact rt (by rw [← ht, ws, hb]; rfl)
set_option maxRecDepth 100000 in
theorem trim_any (s : Bs) (hl : s.length ≤ 100000) (w : World) : Calls Tryd.prog 35 ([sj s, .string ⟨#[32, 9, 10, 13]⟩] : List Value).toArray w fun e w' => e = .returned (sj (ws s)) ∧ Below w.heap.size w w' := by
  refine enterV tab_ok Tryd.func35 rfl Tryd.ntmps35 rfl (St.start w) ?_
  cases s with
  | nil =>
    iterate 2 refine cf (by simp) ?_
    iterate 2 refine ct (by simp) ?_
    exact rt rfl
  | cons c t =>
    iterate 2 refine ct (ne0b c t) ?_
    refine cf (ne0 c t) ?_
    refine cf (by simp) ?_
    iterate 5 refine cf rfl ?_
    refine cv aset_any ?_
    intro b5
    have hsz : (asA 4).size = 256 := by unfold asA; simp
    refine sN 0 rfl (by rw [hsz]; rfl) (by unfold asA; simp [Value.oneCell']) ?_ (by rw [hsz]; kernel_rfl)
    refine ct rfl ?_
    refine cvs (fun w' hs => trimA_any (c :: t) hl b5 w' (hs.nth (k := 0) rfl)) ?_
    exact rt rfl
section
variable {b : Nat} {s : Bs} {bad : Bool} {d : Int} {w : World}
theorem fail_any (h : w.heap[b]? = some (.cells (rdC s bad d) TRd (0, 0))) : Calls Tryd.prog 33 ([pj b] : List Value).toArray w fun e w' => e = .returned (.tuple #[]) ∧ Upd b (rdC s true d) TRd w w' := by
  refine enterU tab_ok Tryd.func33 rfl Tryd.ntmps33 rfl h ?_
  refine s1 0 rfl (by show 1 < 3; decide) ?_
  exact rtU rfl
theorem blanks_any (hl : s.length ≤ 100000) (h : w.heap[b]? = some (.cells (rdC s bad d) TRd (0, 0))) : Calls Tryd.prog 27 ([pj b] : List Value).toArray w fun e w' => e = .returned (.tuple #[]) ∧ Upd b (rdC (ws s) bad d) TRd w w' := by
  refine enterU tab_ok Tryd.func27 rfl Tryd.ntmps27 rfl h ?_
  refine ld1 0 rfl (v := sj s) rfl ?_
  refine cv (fun w => trim_any s hl w) ?_
  refine s1 0 rfl (by show 0 < 3; decide) ?_
  exact rtU rfl
/-- a sign is passed over -/
def eatP (c : UInt8) (s : Bs) : Bool × Bs := match ws s with
  | [] => (false, [])
  | x :: t => if x = c then (true, t) else (false, x :: t)
theorem eat_len (c : UInt8) (s : Bs) : (eatP c s).2.length ≤ s.length := by
  have := ws_len s
  unfold eatP
  cases h : ws s with
  | nil => simp
  | cons x t =>
    rw [h] at this
    dsimp only
    split
    · simp at this; dsimp only; omega
    · exact this
theorem eat_nil {c : UInt8} {s : Bs} (h : ws s = []) : eatP c s = (false, []) := by unfold eatP; rw [h]
theorem eat_yes {c : UInt8} {s t : Bs} (h : ws s = c :: t) : eatP c s = (true, t) := by unfold eatP; rw [h]; exact if_pos rfl
theorem eat_no {c x : UInt8} {s t : Bs} (h : ws s = x :: t) (hx : ¬ x = c) : eatP c s = (false, x :: t) := by unfold eatP; rw [h]; exact if_neg hx
theorem eat_any (c : UInt8) (hl : s.length ≤ 100000) (h : w.heap[b]? = some (.cells (rdC s bad d) TRd (0, 0))) : Calls Tryd.prog 69 ([pj b, .int .u8 c.toNat] : List Value).toArray w fun e w' => e = .returned (.bool (eatP c s).1) ∧ Upd b (rdC (eatP c s).2 bad d) TRd w w' := by
  have hb : ∀ w : World, w.heap[b]? = some (.cells (rdC s bad d) TRd (0, 0)) → Calls Tryd.prog 27 ([pj b] : List Value).toArray w fun e w' => e = .returned (.tuple #[]) ∧ Upd b (rdC (ws s) bad d) TRd w w' := fun w h => blanks_any hl h
  cases hw : ws s with
  | nil =>
    rw [eat_nil hw]
    rw [hw] at hb
    refine enterU tab_ok Tryd.func69 rfl Tryd.ntmps69 rfl h ?_
    refine cU1 0 rfl hb ?_
    refine ld1 0 rfl (v := sj []) rfl ?_
    iterate 7 refine cf (by simp) ?_
    iterate 2 refine ct (by simp) ?_
    exact rtU rfl
  | cons x t =>
    rw [hw] at hb
    by_cases hxc : x = c
    · subst hxc
      rw [eat_yes hw]
      refine enterU tab_ok Tryd.func69 rfl Tryd.ntmps69 rfl h ?_
      refine cU1 0 rfl hb ?_
      refine ld1 0 rfl (v := sj (x :: t)) rfl ?_
      iterate 4 refine ct (ne0b x t) ?_
      refine ld1 0 rfl (v := sj (x :: t)) rfl ?_
      refine ct (ne0b x t) ?_
      refine chL 0 rfl rfl ?_
      iterate 2 refine ct (ne0b x t) ?_
      refine cf (ne0 x t) ?_
      refine cf (by simp) ?_
      refine ld1 0 rfl (v := sj (x :: t)) rfl ?_
      refine slL 1 (by simp) rfl ?_
      refine s1 0 rfl (by show 0 < 3; decide) ?_
      exact rtU rfl
    · rw [eat_no hw hxc]
      refine enterU tab_ok Tryd.func69 rfl Tryd.ntmps69 rfl h ?_
      refine cU1 0 rfl hb ?_
      refine ld1 0 rfl (v := sj (x :: t)) rfl ?_
      iterate 4 refine ct (ne0b x t) ?_
      refine ld1 0 rfl (v := sj (x :: t)) rfl ?_
      refine ct (ne0b x t) ?_
      refine chL 0 rfl rfl ?_
      iterate 2 refine ct (ne0b x t) ?_
      refine cf (ne0 x t) ?_
      refine ct (by simp; intro h; exact hxc (UInt8.toNat_inj.1 (by omega))) ?_
      exact rtU rfl
/-- a word is passed over -/
def pre : Bs → Bs → Option Bs
  | [], s => some s
  | _ :: _, [] => none
  | a :: l, c :: s => if a = c then pre l s else none
theorem pre_eq (p : Bs) : ∀ s, pre p s = if p.length ≤ s.length ∧ s.take p.length = p then some (s.drop p.length) else none := by
  induction p with
  | nil => intro s; simp [pre]
  | cons a l ih =>
    intro s
    cases s with
    | nil => simp [pre]
    | cons c s =>
      rw [pre, ih]
      by_cases h : a = c
      · subst h; simp
      · rw [if_neg h, if_neg (by simp; intro _ h2; exact absurd h2.symm h)]
theorem cut_any (p s : Bs) (w : World) : Calls Tryd.prog 61 ([sj s, sj p] : List Value).toArray w fun e w' => e = .returned (.tuple #[sj ((pre p s).getD s), .bool (pre p s).isSome]) ∧ Below w.heap.size w w' := by
  refine enterV tab_ok Tryd.func61 rfl Tryd.ntmps61 rfl (St.start w) ?_
  refine inl tab_ok Tryd.func74 rfl Tryd.ntmps74 rfl ?_
  refine inl tab_ok Tryd.func81 rfl Tryd.ntmps81 rfl ?_
  rw [pre_eq]
  by_cases hl : p.length ≤ s.length
  · have h1 : decide (((s.length : Nat) : Int) ≥ ((p.length : Nat) : Int)) = true := decide_eq_true (by omega)
    have h1b : (decide (((s.length : Nat) : Int) ≥ ((p.length : Nat) : Int)) == true) = true := by rw [h1]; rfl
    iterate 4 refine ct h1b ?_
    refine slT p.length hl rfl ?_
    iterate 2 refine ct h1b ?_
    refine ct h1 ?_
    refine bk ?_
    by_cases hp : s.take p.length = p
    · have e : ((ByteArray.mk (s.take p.length).toArray).toList == (ByteArray.mk p.toArray).toList) = true := by rw [list_beq]; exact decide_eq_true hp
      rw [if_pos ⟨hl, hp⟩]
      refine cf (by rw [e]; rfl) ?_
      refine slL p.length hl rfl ?_
      refine bk ?_
      exact rt rfl
    · have e : ((ByteArray.mk (s.take p.length).toArray).toList == (ByteArray.mk p.toArray).toList) = false := by rw [list_beq]; exact decide_eq_false hp
      rw [if_neg fun h => hp h.2]
      refine ct (by rw [e]; rfl) ?_
      refine bk ?_
      exact rt rfl
  · have h1 : decide (((s.length : Nat) : Int) ≥ ((p.length : Nat) : Int)) = false := decide_eq_false (by omega)
    have h1b : (decide (((s.length : Nat) : Int) ≥ ((p.length : Nat) : Int)) == true) = false := by rw [h1]; rfl
    iterate 6 refine cf h1b ?_
    refine cf h1 ?_
    refine bk ?_
    rw [if_neg fun h => hl h.1]
    refine ct rfl ?_
    refine bk ?_
    exact rt rfl
/-- a word is passed over, or the text isn't in form -/
theorem must_yes (p : Bs) {t : Bs} (hp : pre p s = some t) (h : w.heap[b]? = some (.cells (rdC s bad d) TRd (0, 0))) : Calls Tryd.prog 45 ([pj b, sj p] : List Value).toArray w fun e w' => e = .returned (.tuple #[]) ∧ Upd b (rdC t bad d) TRd w w' := by
  have hc := fun w => cut_any p s w
  rw [hp] at hc
  refine enterU tab_ok Tryd.func45 rfl Tryd.ntmps45 rfl h ?_
  refine ld1 0 rfl (v := sj s) rfl ?_
  refine cv hc ?_
  refine cf rfl ?_
  refine s1 0 rfl (by show 0 < 3; decide) ?_
  exact rtU rfl
theorem must_no (p : Bs) (hp : pre p s = none) (h : w.heap[b]? = some (.cells (rdC s bad d) TRd (0, 0))) : Calls Tryd.prog 45 ([pj b, sj p] : List Value).toArray w fun e w' => e = .returned (.tuple #[]) ∧ Upd b (rdC s true d) TRd w w' := by
  have hc := fun w => cut_any p s w
  rw [hp] at hc
  refine enterU tab_ok Tryd.func45 rfl Tryd.ntmps45 rfl h ?_
  refine ld1 0 rfl (v := sj s) rfl ?_
  refine cv hc ?_
  refine ct rfl ?_
  refine cU1 0 rfl (fun w h => fail_any h) ?_
  exact rtU rfl
end
end Go.Proofs.YtpegkoklmhccjaaDoor
end
section
namespace Go.Proofs.YtpegkoklmhccjaaDoor
open Go.RowKit Go.Sx
set_option linter.unusedVariables false
def isDig (c : UInt8) : Bool := decide (48 ≤ c.toNat) && decide (c.toNat ≤ 57)
def hd : Bs → Bool
  | [] => false
  | c :: _ => isDig c
section
variable {b : Nat} {s : Bs} {bad : Bool} {d : Int} {w : World}
theorem nil_ne : (!((ByteArray.mk ([] : Bs).toArray).toList == (ByteArray.mk #[]).toList)) = false := by simp
theorem digit_any (h : w.heap[b]? = some (.cells (rdC s bad d) TRd (0, 0))) : Calls Tryd.prog 70 ([pj b] : List Value).toArray w fun e w' => e = .returned (.bool (hd s)) ∧ Upd b (rdC s bad d) TRd w w' := by
  cases s with
  | nil =>
    refine enterU tab_ok Tryd.func70 rfl Tryd.ntmps70 rfl h ?_
    refine ld1 0 rfl (v := sj []) rfl ?_
    iterate 6 refine cf (by simp) ?_
    refine cf (by simp) ?_
    iterate 6 refine cf rfl ?_
    refine cf rfl ?_
    exact rtU rfl
  | cons c t =>
    have e : (!((ByteArray.mk (c :: t).toArray).toList == (ByteArray.mk #[]).toList)) = true := by rw [ne0]; rfl
    have e2 : ((!((ByteArray.mk (c :: t).toArray).toList == (ByteArray.mk #[]).toList)) == true) = true := by rw [e]; rfl
    have e3 : hd (c :: t) = (decide (48 ≤ c.toNat) && decide (c.toNat ≤ 57)) := rfl
    rw [e3]
    refine enterU tab_ok Tryd.func70 rfl Tryd.ntmps70 rfl h ?_
    refine ld1 0 rfl (v := sj (c :: t)) rfl ?_
    iterate 4 refine ct e2 ?_
    refine ld1 0 rfl (v := sj (c :: t)) rfl ?_
    refine ct e2 ?_
    refine chL 0 rfl rfl ?_
    refine ct e2 ?_
    refine ct e ?_
    by_cases h1 : 48 ≤ c.toNat
    · have f1 : decide ((c.toNat : Int) ≥ 48) = true := decide_eq_true (by omega)
      have f2 : (decide ((c.toNat : Int) ≥ 48) == true) = true := by rw [f1]; rfl
      iterate 4 refine ct f2 ?_
      refine ld1 0 rfl (v := sj (c :: t)) rfl ?_
      refine ct f2 ?_
      refine chL 0 rfl rfl ?_
      refine ct f2 ?_
      refine ct f1 ?_
      exact rtU (by rw [decide_eq_true h1, Bool.true_and]; exact congrArg Value.bool (decide_eq_decide.2 (by omega)))
    · have f1 : decide ((c.toNat : Int) ≥ 48) = false := decide_eq_false (by omega)
      have f2 : (decide ((c.toNat : Int) ≥ 48) == true) = false := by rw [f1]; rfl
      iterate 6 refine cf f2 ?_
      refine cf f1 ?_
      exact rtU (by rw [decide_eq_false h1]; rfl)
end
def MAXI : Nat := 9007199254740991
/-- figures, «as» the program reckons -/
def accD (n : Nat) (c : UInt8) : Nat := if n ≤ MAXI then 10 * n + (c.toNat - 48) else n
/-- figures' number -/
def valD (n : Nat) (c : UInt8) : Nat := 10 * n + (c.toNat - 48)
theorem valD_ge (l : Bs) : ∀ n, n ≤ l.foldl valD n := by
  induction l with
  | nil => intro n; exact Nat.le_refl _
  | cons c l ih => intro n; exact Nat.le_trans (by unfold valD; omega) (ih (valD n c))
theorem acc_val (l : Bs) : ∀ n, (l.foldl valD n ≤ MAXI → l.foldl accD n = l.foldl valD n) ∧ (MAXI < l.foldl valD n → MAXI < l.foldl accD n) := by
  induction l with
  | nil => intro n; exact ⟨fun _ => rfl, fun h => h⟩
  | cons c l ih =>
    intro n
    simp only [List.foldl_cons]
    by_cases h : n ≤ MAXI
    · have e : accD n c = valD n c := by unfold accD valD; rw [if_pos h]
      rw [e]; exact ih _
    · have e : accD n c = n := by unfold accD; rw [if_neg h]
      have e2 : ∀ l : Bs, l.foldl accD n = n := by
        intro l
        induction l with
        | nil => rfl
        | cons c l ih => rw [List.foldl_cons, show accD n c = n by unfold accD; rw [if_neg h]]; exact ih
      rw [e, e2]
      have h2 := valD_ge l (valD n c)
      have h3 : n ≤ valD n c := by unfold valD; omega
      exact ⟨fun h4 => by omega, fun _ => by omega⟩
theorem acc_le (l : Bs) (hl : l.all isDig = true) : ∀ n, n ≤ 10 * MAXI + 9 → l.foldl accD n ≤ 10 * MAXI + 9 := by
  induction l with
  | nil => intro n h; exact h
  | cons c l ih =>
    intro n h
    simp only [List.all_cons, Bool.and_eq_true] at hl
    refine ih hl.2 _ ?_
    have := hl.1
    simp only [isDig, Bool.and_eq_true, decide_eq_true_eq] at this
    unfold accD
    split <;> omega
/-- a number: its sign, its figures -/
def numQ (m : Bool) (s1 : Bs) : Option (Int × Bs) :=
  if s1.takeWhile isDig = [] ∨ MAXI < (s1.takeWhile isDig).foldl valD 0 ∨ ((s1.takeWhile isDig).head? = some 48 ∧ (1 < (s1.takeWhile isDig).length ∨ m = true)) then none
  else some (if m then -(((s1.takeWhile isDig).foldl valD 0 : Nat) : Int) else (((s1.takeWhile isDig).foldl valD 0 : Nat) : Int), s1.dropWhile isDig)
def numP (s : Bs) : Option (Int × Bs) := numQ (s.head? == some 45) (if (s.head? == some 45) = true then s.tail else s)
theorem span_dig (pre t s1 : Bs) (h1 : pre ++ t = s1) (h2 : pre.all isDig = true) (h3 : hd t = false) : s1.takeWhile isDig = pre ∧ s1.dropWhile isDig = t := by
  subst h1
  induction pre with
  | nil =>
    cases t with
    | nil => exact ⟨rfl, rfl⟩
    | cons c t => have h : isDig c = false := h3; simp [h]
  | cons c pre ih =>
    simp only [List.all_cons, Bool.and_eq_true] at h2
    obtain ⟨h4, h5⟩ := ih h2.2
    simp [h2.1, h4, h5]
/-- a value without parts, of a kind -/
abbrev valC (k i : Int) (s : Bs) : Array Value := #[.int .i64 k, .int .i64 i, sj s, .slice none 0 0, .slice none 0 0]
structure NumO where
  k : Int
  i : Int
  t : Bs
  bad : Bool
def NumF (s : Bs) (x : NumO) : Prop := x.t.length ≤ s.length ∧ (x.k = 0 ∨ x.k = 2) ∧ (-9223372036854775808 < x.i ∧ x.i < 9223372036854775808) ∧ ((x.bad = true ∧ numP s = none) ∨ (x.bad = false ∧ x.k = 2 ∧ numP s = some (x.i, x.t)))
section
variable {b : Nat} {s : Bs} {d : Int} {w : World}
set_option maxRecDepth 100000 in
set_option maxHeartbeats 4000000 in
theorem number_any (hne : s ≠ []) (hl : s.length ≤ 100000) (h : w.heap[b]? = some (.cells (rdC s false d) TRd (0, 0))) :
    Calls Tryd.prog 52 ([pj b] : List Value).toArray w fun e w' => ∃ x : NumO, NumF s x ∧ e = .returned (.agg (valC x.k x.i [])) ∧ Upd b (rdC x.t x.bad d) TRd w w' := by
  obtain ⟨c0, t0, hs⟩ : ∃ c0 t0, s = c0 :: t0 := by cases s with | nil => exact absurd rfl hne | cons c t => exact ⟨c, t, rfl⟩
  refine enterUx tab_ok Tryd.func52 rfl Tryd.ntmps52 rfl h ?_
  intro b2
  refine ld1 0 rfl (v := sj s) rfl ?_
  refine chL 0 rfl (c := c0) (by rw [hs]; rfl) ?_
  by_cases h45 : c0 = 45
  · have hb : ((c0.toNat : Int) == 45) = true := by rw [h45]; rfl
    have hm : true = (s.head? == some 45) := by rw [hs, h45]; rfl
    refine ct hb ?_
    refine ld1 0 rfl (v := sj s) rfl ?_
    refine slL 1 (by rw [hs]; simp) rfl ?_
    have hs1 : s.drop 1 = if true = true then s.tail else s := by rw [if_pos rfl, List.drop_one]
    have hsl : (s.drop 1).length ≤ s.length := by simp
    generalize s.drop 1 = s1 at hs1 hsl ⊢
    refine Sx.s1 0 rfl (by show 0 < 3; decide) ?_
    cases hh : hd s1 with
    | false =>
      have hnone : numP s = none := by unfold numP; rw [← hm, ← hs1]; unfold numQ; exact if_pos (.inl ((span_dig [] s1 s1 rfl rfl hh).1))
      refine cU1 0 rfl (fun w h => digit_any h) ?_
      refine ct (by rw [hh]; rfl) ?_
      refine cU1 0 rfl (fun w h => fail_any h) ?_
      refine bu (c := valC 0 0 []) rfl ?_
      refine sN 1 rfl rfl (by simp [Value.oneCell']) ?_ (by kernel_rfl)
      refine ldN 1 rfl rfl ?_
      exact rtUx (Φ := NumF s) (⟨0, 0, s1, true⟩ : NumO) ⟨hsl, .inl rfl, ⟨by dsimp only; omega, by dsimp only; omega⟩, .inl ⟨rfl, hnone⟩⟩ rfl
    | true =>
      refine cU1 0 rfl (fun w h => digit_any h) ?_
      refine cf (by rw [hh]; rfl) ?_
      obtain ⟨c1, t1, rfl⟩ : ∃ c1 t1, s1 = c1 :: t1 := by cases s1 with | nil => cases hh | cons c t => exact ⟨c, t, rfl⟩
      refine ld1 0 rfl (v := sj (c1 :: t1)) rfl ?_
      refine chL 0 rfl rfl ?_
      refine lpe tab_ok 0 (β := Bs × Bs) (fun x => x.1 ++ x.2 = c1 :: t1 ∧ x.1.all isDig = true ∧ hd x.2 = false) (fun x => ⟨[(0, pj b), (2, pj b2), (3, .bool ((c0.toNat : Int) == 45)), (4, .bool ((c1.toNat : Int) == 48)), (5, .int .i64 ((x.1.foldl accD 0 : Nat) : Int)), (6, .int .i64 ((x.1.length : Nat) : Int))], [cl b (rdC x.2 false d) TRd, cl b2 #[.int .i64 0, .int .i64 0, .string ⟨#[]⟩, .slice none 0 0, .slice none 0 0] 25], []⟩) (α := Bs × Bs) (fun x => x.1 ++ x.2 = c1 :: t1 ∧ x.1.all isDig = true) (fun x => ⟨[(0, pj b), (2, pj b2), (3, .bool ((c0.toNat : Int) == 45)), (4, .bool ((c1.toNat : Int) == 48)), (5, .int .i64 ((x.1.foldl accD 0 : Nat) : Int)), (6, .int .i64 ((x.1.length : Nat) : Int))], [cl b (rdC x.2 false d) TRd, cl b2 #[.int .i64 0, .int .i64 0, .string ⟨#[]⟩, .slice none 0 0, .slice none 0 0] 25], []⟩) (fun x => x.2.length) ([], c1 :: t1) ⟨rfl, rfl⟩ ⟨⟨rfl, rfl, rfl, rfl, rfl, rfl, trivial⟩, .cons (.cons .nil), rfl⟩ ?_ ?_
      · rintro ⟨pre, t⟩ ⟨h1, h2⟩
        dsimp only at h1 h2 ⊢
        have hpl : pre.length + t.length ≤ 100000 := by have := congrArg List.length h1; rw [List.length_append] at this; omega
        cases ht : hd t with
        | false =>
          refine cU1 0 rfl (fun w h => digit_any h) ?_
          refine cf ht ?_
          exact ⟨(pre, t), ⟨h1, h2, ht⟩, ⟨rfl, rfl, rfl, rfl, rfl, rfl, trivial⟩, .cons (.cons .nil), rfl⟩
        | true =>
          obtain ⟨c, t, rfl⟩ : ∃ c t', t = c :: t' := by cases t with | nil => cases ht | cons c t => exact ⟨c, t, rfl⟩
          have hc : isDig c = true := ht
          have hc2 := hc
          simp only [isDig, Bool.and_eq_true, decide_eq_true_eq] at hc2
          have hn := acc_le pre h2 0 (Nat.zero_le _)
          have hM : MAXI = 9007199254740991 := rfl
          have hacc : (pre ++ [c]).foldl accD 0 = accD (pre.foldl accD 0) c := by rw [List.foldl_append]; rfl
          have hall : (pre ++ [c]).all isDig = true := by rw [List.all_append, h2]; simp [hc]
          refine cU1 0 rfl (fun w h => digit_any h) ?_
          refine ct ht ?_
          have hgo : ∀ n : Nat, n = accD (pre.foldl accD 0) c → n = (pre ++ [c]).foldl accD 0 := fun n h => h.trans hacc.symm
          generalize hN : pre.foldl accD 0 = N at hn hgo hacc
          refine cd (fun hle => ?_) (fun hle => ?_)
          · refine .as ((10 * N : Nat) : Int) (by omega) (by simp only [mn]; omega) (by simp only [mx]; omega) ?_
            refine ld1 0 rfl (v := sj (c :: t)) rfl ?_
            refine chL 0 rfl rfl ?_
            refine .as ((c.toNat - 48 : Nat) : Int) (by omega) (by simp only [mn]; omega) (by simp only [mx]; omega) ?_
            refine .same (by simp only [mn]; omega) (by simp only [mx]; omega) ?_
            refine .as ((10 * N + (c.toNat - 48) : Nat) : Int) (by omega) (by simp only [mn]; omega) (by simp only [mx]; omega) ?_
            refine .as ((pre.length + 1 : Nat) : Int) (by omega) (by simp only [mn]; omega) (by simp only [mx]; omega) ?_
            refine ld1 0 rfl (v := sj (c :: t)) rfl ?_
            refine slL 1 (by simp) rfl ?_
            refine Sx.s1 0 rfl (by show 0 < 3; decide) ?_
            have e := hgo (10 * N + (c.toNat - 48)) (by unfold accD; rw [if_pos (by omega)])
            rw [e]
            exact ⟨(pre ++ [c], t), ⟨by simpa using h1, hall⟩, by simp, ⟨rfl, rfl, rfl, rfl, rfl, by rw [show (pre ++ [c]).length = pre.length + 1 by simp]; rfl, trivial⟩, .cons (.cons .nil), rfl⟩
          · refine .as ((pre.length + 1 : Nat) : Int) (by omega) (by simp only [mn]; omega) (by simp only [mx]; omega) ?_
            refine ld1 0 rfl (v := sj (c :: t)) rfl ?_
            refine slL 1 (by simp) rfl ?_
            refine Sx.s1 0 rfl (by show 0 < 3; decide) ?_
            have e := hgo N (by unfold accD; rw [if_neg (by omega)])
            rw [e]
            exact ⟨(pre ++ [c], t), ⟨by simpa using h1, hall⟩, by simp, ⟨rfl, rfl, rfl, rfl, rfl, by rw [show (pre ++ [c]).length = pre.length + 1 by simp]; rfl, trivial⟩, .cons (.cons .nil), rfl⟩
      · rintro ⟨pre, t⟩ ⟨h1, h2, h3⟩
        dsimp only at h1 h2 h3 ⊢
        obtain ⟨e1, e2⟩ := span_dig pre t _ h1 h2 h3
        have htl : t.length ≤ s.length := by have := congrArg List.length h1; rw [List.length_append] at this; omega
        have hn := acc_le pre h2 0 (Nat.zero_le _)
        have hM : MAXI = 9007199254740991 := rfl
        obtain ⟨hv1, hv2⟩ := acc_val pre 0
        have hpl : pre.length ≤ 100000 := by have := congrArg List.length h1; rw [List.length_append] at this; omega
        obtain ⟨p1, rfl⟩ : ∃ p1, pre = c1 :: p1 := by
          cases pre with
          | nil => simp at h1; subst h1; rw [hh] at h3; cases h3
          | cons x p => simp at h1; exact ⟨p, by rw [h1.1]⟩
        have hnum : numP s = if MAXI < (c1 :: p1).foldl valD 0 ∨ (c1 = 48 ∧ (1 < (c1 :: p1).length ∨ true = true)) then none else some (if true then -(((c1 :: p1).foldl valD 0 : Nat) : Int) else (((c1 :: p1).foldl valD 0 : Nat) : Int), t) := by
          unfold numP; rw [← hm, ← hs1]; unfold numQ; rw [e1, e2]; simp
        have fbad : ∀ k : Int, k = 2 → ∀ v : Int, (-9223372036854775808 < v ∧ v < 9223372036854775808) → (MAXI < (c1 :: p1).foldl valD 0 ∨ (c1 = 48 ∧ (1 < (c1 :: p1).length ∨ true = true))) → NumF s ⟨k, v, t, true⟩ := fun k hk v hv h => ⟨htl, .inr hk, hv, .inl ⟨rfl, by rw [hnum, if_pos h]⟩⟩
        have fok : ¬ (MAXI < (c1 :: p1).foldl valD 0 ∨ (c1 = 48 ∧ (1 < (c1 :: p1).length ∨ true = true))) → NumF s ⟨2, if true then -(((c1 :: p1).foldl accD 0 : Nat) : Int) else (((c1 :: p1).foldl accD 0 : Nat) : Int), t, false⟩ := fun h => ⟨htl, .inr rfl, by dsimp only; split <;> omega, .inr ⟨rfl, rfl, by rw [hnum, if_neg h, hv1 (Nat.le_of_not_lt fun h' => h (.inl h'))]⟩⟩
        generalize hpre : c1 :: p1 = pre at *
        by_cases hA : MAXI < pre.foldl accD 0
        · have f1 : decide (((pre.foldl accD 0 : Nat) : Int) > 9007199254740991) = true := decide_eq_true (by omega)
          have f2 : (decide (((pre.foldl accD 0 : Nat) : Int) > 9007199254740991) == false) = false := by rw [f1]; rfl
          have hbig : MAXI < pre.foldl valD 0 := Nat.lt_of_not_le fun h => by rw [hv1 h] at hA; omega
          iterate 3 refine cf f2 ?_
          refine ct f1 ?_
          refine ct rfl ?_
          refine cU1 0 rfl (fun w h => fail_any h) ?_
          refine ct hb ?_
          refine .as (-((pre.foldl accD 0 : Nat) : Int)) (by omega) (by simp only [mn]; omega) (by simp only [mx]; omega) ?_
          refine bu (c := valC 2 (-((pre.foldl accD 0 : Nat) : Int)) []) rfl ?_
          refine sN 1 rfl rfl (by simp [Value.oneCell']) ?_ (by kernel_rfl)
          refine ldN 1 rfl rfl ?_
          exact rtUx (Φ := NumF s) (⟨2, -((pre.foldl accD 0 : Nat) : Int), t, true⟩ : NumO) (fbad _ rfl _ (by omega) (.inl hbig)) rfl
        · have f1 : decide (((pre.foldl accD 0 : Nat) : Int) > 9007199254740991) = false := decide_eq_false (by omega)
          have f2 : (decide (((pre.foldl accD 0 : Nat) : Int) > 9007199254740991) == false) = true := by rw [f1]; rfl
          have hsm : ¬ MAXI < pre.foldl valD 0 := fun h => hA (hv2 h)
          iterate 2 refine ct f2 ?_
          by_cases hz : c1 = 48
          · have z1 : ((c1.toNat : Int) == 48) = true := by rw [hz]; rfl
            have z2 : (((c1.toNat : Int) == 48) == true) = true := by rw [z1]; rfl
            iterate 3 refine ct z2 ?_
            by_cases hf : 1 < pre.length
            · have g1 : decide (((pre.length : Nat) : Int) > 1) = true := decide_eq_true (by omega)
              refine cf (by rw [g1]; rfl) ?_
              refine ct z2 ?_
              refine ct g1 ?_
              refine ct f2 ?_
              refine ct z1 ?_
              refine cf f1 ?_
              refine ct rfl ?_
              refine cU1 0 rfl (fun w h => fail_any h) ?_
              refine ct hb ?_
              refine .as (-((pre.foldl accD 0 : Nat) : Int)) (by omega) (by simp only [mn]; omega) (by simp only [mx]; omega) ?_
              refine bu (c := valC 2 (-((pre.foldl accD 0 : Nat) : Int)) []) rfl ?_
              refine sN 1 rfl rfl (by simp [Value.oneCell']) ?_ (by kernel_rfl)
              refine ldN 1 rfl rfl ?_
              exact rtUx (Φ := NumF s) (⟨2, -((pre.foldl accD 0 : Nat) : Int), t, true⟩ : NumO) (fbad _ rfl _ (by omega) (.inr ⟨hz, .inl hf⟩)) rfl
            · have g1 : decide (((pre.length : Nat) : Int) > 1) = false := decide_eq_false (by omega)
              refine ct (by rw [g1]; rfl) ?_
              refine ct z2 ?_
              refine cf g1 ?_
              refine ct f2 ?_
              refine ct z1 ?_
              refine cf f1 ?_
              refine ct hb ?_
              refine cU1 0 rfl (fun w h => fail_any h) ?_
              refine ct hb ?_
              refine .as (-((pre.foldl accD 0 : Nat) : Int)) (by omega) (by simp only [mn]; omega) (by simp only [mx]; omega) ?_
              refine bu (c := valC 2 (-((pre.foldl accD 0 : Nat) : Int)) []) rfl ?_
              refine sN 1 rfl rfl (by simp [Value.oneCell']) ?_ (by kernel_rfl)
              refine ldN 1 rfl rfl ?_
              exact rtUx (Φ := NumF s) (⟨2, -((pre.foldl accD 0 : Nat) : Int), t, true⟩ : NumO) (fbad _ rfl _ (by omega) (.inr ⟨hz, .inr rfl⟩)) rfl
          · have z1 : ((c1.toNat : Int) == 48) = false := by
              rw [beq_eq_false_iff_ne]; intro h; exact hz (UInt8.toNat_inj.1 (by show c1.toNat = 48; omega))
            have z2 : (((c1.toNat : Int) == 48) == true) = false := by rw [z1]; rfl
            iterate 4 refine cf z2 ?_
            refine ct f2 ?_
            refine cf z1 ?_
            refine cf f1 ?_
            refine cf rfl ?_
            refine ct hb ?_
            refine .as (-((pre.foldl accD 0 : Nat) : Int)) (by omega) (by simp only [mn]; omega) (by simp only [mx]; omega) ?_
            refine bu (c := valC 2 (-((pre.foldl accD 0 : Nat) : Int)) []) rfl ?_
            refine sN 1 rfl rfl (by simp [Value.oneCell']) ?_ (by kernel_rfl)
            refine ldN 1 rfl rfl ?_
            exact rtUx (Φ := NumF s) (⟨2, -((pre.foldl accD 0 : Nat) : Int), t, false⟩ : NumO) (fok (by rintro (h | ⟨h, _⟩); exact hsm h; exact hz h)) rfl
  · have hb : ((c0.toNat : Int) == 45) = false := by rw [beq_eq_false_iff_ne]; intro h; exact h45 (UInt8.toNat_inj.1 (by show c0.toNat = 45; omega))
    have hm : false = (s.head? == some 45) := by rw [hs]; symm; rw [List.head?_cons, beq_eq_false_iff_ne]; intro h; exact h45 (Option.some.inj h)
    refine cf hb ?_
    obtain ⟨s1, hs1e⟩ : ∃ s1, s1 = s := ⟨_, rfl⟩
    have hs1 : s1 = if false = true then s.tail else s := by rw [hs1e, if_neg (by decide)]
    have hsl : s1.length ≤ s.length := by rw [hs1e]; exact Nat.le_refl _
    rw [show (rdC s false d) = rdC s1 false d by rw [hs1e]]
    clear hs1e
    cases hh : hd s1 with
    | false =>
      have hnone : numP s = none := by unfold numP; rw [← hm, ← hs1]; unfold numQ; exact if_pos (.inl ((span_dig [] s1 s1 rfl rfl hh).1))
      refine cU1 0 rfl (fun w h => digit_any h) ?_
      refine ct (by rw [hh]; rfl) ?_
      refine cU1 0 rfl (fun w h => fail_any h) ?_
      refine bu (c := valC 0 0 []) rfl ?_
      refine sN 1 rfl rfl (by simp [Value.oneCell']) ?_ (by kernel_rfl)
      refine ldN 1 rfl rfl ?_
      exact rtUx (Φ := NumF s) (⟨0, 0, s1, true⟩ : NumO) ⟨hsl, .inl rfl, ⟨by dsimp only; omega, by dsimp only; omega⟩, .inl ⟨rfl, hnone⟩⟩ rfl
    | true =>
      refine cU1 0 rfl (fun w h => digit_any h) ?_
      refine cf (by rw [hh]; rfl) ?_
      obtain ⟨c1, t1, rfl⟩ : ∃ c1 t1, s1 = c1 :: t1 := by cases s1 with | nil => cases hh | cons c t => exact ⟨c, t, rfl⟩
      refine ld1 0 rfl (v := sj (c1 :: t1)) rfl ?_
      refine chL 0 rfl rfl ?_
      refine lpe tab_ok 0 (β := Bs × Bs) (fun x => x.1 ++ x.2 = c1 :: t1 ∧ x.1.all isDig = true ∧ hd x.2 = false) (fun x => ⟨[(0, pj b), (2, pj b2), (3, .bool ((c0.toNat : Int) == 45)), (4, .bool ((c1.toNat : Int) == 48)), (5, .int .i64 ((x.1.foldl accD 0 : Nat) : Int)), (6, .int .i64 ((x.1.length : Nat) : Int))], [cl b (rdC x.2 false d) TRd, cl b2 #[.int .i64 0, .int .i64 0, .string ⟨#[]⟩, .slice none 0 0, .slice none 0 0] 25], []⟩) (α := Bs × Bs) (fun x => x.1 ++ x.2 = c1 :: t1 ∧ x.1.all isDig = true) (fun x => ⟨[(0, pj b), (2, pj b2), (3, .bool ((c0.toNat : Int) == 45)), (4, .bool ((c1.toNat : Int) == 48)), (5, .int .i64 ((x.1.foldl accD 0 : Nat) : Int)), (6, .int .i64 ((x.1.length : Nat) : Int))], [cl b (rdC x.2 false d) TRd, cl b2 #[.int .i64 0, .int .i64 0, .string ⟨#[]⟩, .slice none 0 0, .slice none 0 0] 25], []⟩) (fun x => x.2.length) ([], c1 :: t1) ⟨rfl, rfl⟩ ⟨⟨rfl, rfl, rfl, rfl, rfl, rfl, trivial⟩, .cons (.cons .nil), rfl⟩ ?_ ?_
      · rintro ⟨pre, t⟩ ⟨h1, h2⟩
        dsimp only at h1 h2 ⊢
        have hpl : pre.length + t.length ≤ 100000 := by have := congrArg List.length h1; rw [List.length_append] at this; omega
        cases ht : hd t with
        | false =>
          refine cU1 0 rfl (fun w h => digit_any h) ?_
          refine cf ht ?_
          exact ⟨(pre, t), ⟨h1, h2, ht⟩, ⟨rfl, rfl, rfl, rfl, rfl, rfl, trivial⟩, .cons (.cons .nil), rfl⟩
        | true =>
          obtain ⟨c, t, rfl⟩ : ∃ c t', t = c :: t' := by cases t with | nil => cases ht | cons c t => exact ⟨c, t, rfl⟩
          have hc : isDig c = true := ht
          have hc2 := hc
          simp only [isDig, Bool.and_eq_true, decide_eq_true_eq] at hc2
          have hn := acc_le pre h2 0 (Nat.zero_le _)
          have hM : MAXI = 9007199254740991 := rfl
          have hacc : (pre ++ [c]).foldl accD 0 = accD (pre.foldl accD 0) c := by rw [List.foldl_append]; rfl
          have hall : (pre ++ [c]).all isDig = true := by rw [List.all_append, h2]; simp [hc]
          refine cU1 0 rfl (fun w h => digit_any h) ?_
          refine ct ht ?_
          have hgo : ∀ n : Nat, n = accD (pre.foldl accD 0) c → n = (pre ++ [c]).foldl accD 0 := fun n h => h.trans hacc.symm
          generalize hN : pre.foldl accD 0 = N at hn hgo hacc
          refine cd (fun hle => ?_) (fun hle => ?_)
          · refine .as ((10 * N : Nat) : Int) (by omega) (by simp only [mn]; omega) (by simp only [mx]; omega) ?_
            refine ld1 0 rfl (v := sj (c :: t)) rfl ?_
            refine chL 0 rfl rfl ?_
            refine .as ((c.toNat - 48 : Nat) : Int) (by omega) (by simp only [mn]; omega) (by simp only [mx]; omega) ?_
            refine .same (by simp only [mn]; omega) (by simp only [mx]; omega) ?_
            refine .as ((10 * N + (c.toNat - 48) : Nat) : Int) (by omega) (by simp only [mn]; omega) (by simp only [mx]; omega) ?_
            refine .as ((pre.length + 1 : Nat) : Int) (by omega) (by simp only [mn]; omega) (by simp only [mx]; omega) ?_
            refine ld1 0 rfl (v := sj (c :: t)) rfl ?_
            refine slL 1 (by simp) rfl ?_
            refine Sx.s1 0 rfl (by show 0 < 3; decide) ?_
            have e := hgo (10 * N + (c.toNat - 48)) (by unfold accD; rw [if_pos (by omega)])
            rw [e]
            exact ⟨(pre ++ [c], t), ⟨by simpa using h1, hall⟩, by simp, ⟨rfl, rfl, rfl, rfl, rfl, by rw [show (pre ++ [c]).length = pre.length + 1 by simp]; rfl, trivial⟩, .cons (.cons .nil), rfl⟩
          · refine .as ((pre.length + 1 : Nat) : Int) (by omega) (by simp only [mn]; omega) (by simp only [mx]; omega) ?_
            refine ld1 0 rfl (v := sj (c :: t)) rfl ?_
            refine slL 1 (by simp) rfl ?_
            refine Sx.s1 0 rfl (by show 0 < 3; decide) ?_
            have e := hgo N (by unfold accD; rw [if_neg (by omega)])
            rw [e]
            exact ⟨(pre ++ [c], t), ⟨by simpa using h1, hall⟩, by simp, ⟨rfl, rfl, rfl, rfl, rfl, by rw [show (pre ++ [c]).length = pre.length + 1 by simp]; rfl, trivial⟩, .cons (.cons .nil), rfl⟩
      · rintro ⟨pre, t⟩ ⟨h1, h2, h3⟩
        dsimp only at h1 h2 h3 ⊢
        obtain ⟨e1, e2⟩ := span_dig pre t _ h1 h2 h3
        have htl : t.length ≤ s.length := by have := congrArg List.length h1; rw [List.length_append] at this; omega
        have hn := acc_le pre h2 0 (Nat.zero_le _)
        have hM : MAXI = 9007199254740991 := rfl
        obtain ⟨hv1, hv2⟩ := acc_val pre 0
        have hpl : pre.length ≤ 100000 := by have := congrArg List.length h1; rw [List.length_append] at this; omega
        obtain ⟨p1, rfl⟩ : ∃ p1, pre = c1 :: p1 := by
          cases pre with
          | nil => simp at h1; subst h1; rw [hh] at h3; cases h3
          | cons x p => simp at h1; exact ⟨p, by rw [h1.1]⟩
        have hnum : numP s = if MAXI < (c1 :: p1).foldl valD 0 ∨ (c1 = 48 ∧ (1 < (c1 :: p1).length ∨ false = true)) then none else some (if false then -(((c1 :: p1).foldl valD 0 : Nat) : Int) else (((c1 :: p1).foldl valD 0 : Nat) : Int), t) := by
          unfold numP; rw [← hm, ← hs1]; unfold numQ; rw [e1, e2]; simp
        have fbad : ∀ k : Int, k = 2 → ∀ v : Int, (-9223372036854775808 < v ∧ v < 9223372036854775808) → (MAXI < (c1 :: p1).foldl valD 0 ∨ (c1 = 48 ∧ (1 < (c1 :: p1).length ∨ false = true))) → NumF s ⟨k, v, t, true⟩ := fun k hk v hv h => ⟨htl, .inr hk, hv, .inl ⟨rfl, by rw [hnum, if_pos h]⟩⟩
        have fok : ¬ (MAXI < (c1 :: p1).foldl valD 0 ∨ (c1 = 48 ∧ (1 < (c1 :: p1).length ∨ false = true))) → NumF s ⟨2, if false then -(((c1 :: p1).foldl accD 0 : Nat) : Int) else (((c1 :: p1).foldl accD 0 : Nat) : Int), t, false⟩ := fun h => ⟨htl, .inr rfl, by dsimp only; split <;> omega, .inr ⟨rfl, rfl, by rw [hnum, if_neg h, hv1 (Nat.le_of_not_lt fun h' => h (.inl h'))]⟩⟩
        generalize hpre : c1 :: p1 = pre at *
        by_cases hA : MAXI < pre.foldl accD 0
        · have f1 : decide (((pre.foldl accD 0 : Nat) : Int) > 9007199254740991) = true := decide_eq_true (by omega)
          have f2 : (decide (((pre.foldl accD 0 : Nat) : Int) > 9007199254740991) == false) = false := by rw [f1]; rfl
          have hbig : MAXI < pre.foldl valD 0 := Nat.lt_of_not_le fun h => by rw [hv1 h] at hA; omega
          iterate 3 refine cf f2 ?_
          refine ct f1 ?_
          refine ct rfl ?_
          refine cU1 0 rfl (fun w h => fail_any h) ?_
          refine cf hb ?_
          refine bu (c := valC 2 (((pre.foldl accD 0 : Nat) : Int)) []) rfl ?_
          refine sN 1 rfl rfl (by simp [Value.oneCell']) ?_ (by kernel_rfl)
          refine ldN 1 rfl rfl ?_
          exact rtUx (Φ := NumF s) (⟨2, ((pre.foldl accD 0 : Nat) : Int), t, true⟩ : NumO) (fbad _ rfl _ (by omega) (.inl hbig)) rfl
        · have f1 : decide (((pre.foldl accD 0 : Nat) : Int) > 9007199254740991) = false := decide_eq_false (by omega)
          have f2 : (decide (((pre.foldl accD 0 : Nat) : Int) > 9007199254740991) == false) = true := by rw [f1]; rfl
          have hsm : ¬ MAXI < pre.foldl valD 0 := fun h => hA (hv2 h)
          iterate 2 refine ct f2 ?_
          by_cases hz : c1 = 48
          · have z1 : ((c1.toNat : Int) == 48) = true := by rw [hz]; rfl
            have z2 : (((c1.toNat : Int) == 48) == true) = true := by rw [z1]; rfl
            iterate 3 refine ct z2 ?_
            by_cases hf : 1 < pre.length
            · have g1 : decide (((pre.length : Nat) : Int) > 1) = true := decide_eq_true (by omega)
              refine cf (by rw [g1]; rfl) ?_
              refine ct z2 ?_
              refine ct g1 ?_
              refine ct f2 ?_
              refine ct z1 ?_
              refine cf f1 ?_
              refine ct rfl ?_
              refine cU1 0 rfl (fun w h => fail_any h) ?_
              refine cf hb ?_
              refine bu (c := valC 2 (((pre.foldl accD 0 : Nat) : Int)) []) rfl ?_
              refine sN 1 rfl rfl (by simp [Value.oneCell']) ?_ (by kernel_rfl)
              refine ldN 1 rfl rfl ?_
              exact rtUx (Φ := NumF s) (⟨2, ((pre.foldl accD 0 : Nat) : Int), t, true⟩ : NumO) (fbad _ rfl _ (by omega) (.inr ⟨hz, .inl hf⟩)) rfl
            · have g1 : decide (((pre.length : Nat) : Int) > 1) = false := decide_eq_false (by omega)
              refine ct (by rw [g1]; rfl) ?_
              refine ct z2 ?_
              refine cf g1 ?_
              refine ct f2 ?_
              refine ct z1 ?_
              refine cf f1 ?_
              refine cf hb ?_
              refine cf hb ?_
              refine bu (c := valC 2 (((pre.foldl accD 0 : Nat) : Int)) []) rfl ?_
              refine sN 1 rfl rfl (by simp [Value.oneCell']) ?_ (by kernel_rfl)
              refine ldN 1 rfl rfl ?_
              exact rtUx (Φ := NumF s) (⟨2, ((pre.foldl accD 0 : Nat) : Int), t, false⟩ : NumO) (fok (by rintro (h | ⟨_, h | h⟩); exact hsm h; exact hf h; cases h)) rfl
          · have z1 : ((c1.toNat : Int) == 48) = false := by
              rw [beq_eq_false_iff_ne]; intro h; exact hz (UInt8.toNat_inj.1 (by show c1.toNat = 48; omega))
            have z2 : (((c1.toNat : Int) == 48) == true) = false := by rw [z1]; rfl
            iterate 4 refine cf z2 ?_
            refine ct f2 ?_
            refine cf z1 ?_
            refine cf f1 ?_
            refine cf rfl ?_
            refine cf hb ?_
            refine bu (c := valC 2 (((pre.foldl accD 0 : Nat) : Int)) []) rfl ?_
            refine sN 1 rfl rfl (by simp [Value.oneCell']) ?_ (by kernel_rfl)
            refine ldN 1 rfl rfl ?_
            exact rtUx (Φ := NumF s) (⟨2, ((pre.foldl accD 0 : Nat) : Int), t, false⟩ : NumO) (fok (by rintro (h | ⟨h, _⟩); exact hsm h; exact hz h)) rfl
end
end Go.Proofs.YtpegkoklmhccjaaDoor
end
section
namespace Go.Proofs.YtpegkoklmhccjaaDoor
open Go.RowKit Go.Sx
set_option linter.unusedVariables false
theorem or_add (x c j : Nat) (hc : c < 2 ^ j) : x * 2 ^ j ||| c = x * 2 ^ j + c := by
  rw [← Nat.shiftLeft_eq]; exact (Nat.shiftLeft_add_eq_or_of_lt hc x).symm
theorem orI (a b : Nat) (ha : a < 2147483648) (hb : b < 2147483648) : bitI .or .i32 (a : Int) (b : Int) = ((a ||| b : Nat) : Int) := by
  have h : a ||| b < 2 ^ 31 := Nat.or_lt_two_pow (by omega) (by omega)
  show IntKind.i32.wrap ((BitVec.ofInt 32 (a : Int) ||| BitVec.ofInt 32 (b : Int)).toNat : Int) = _
  simp only [BitVec.ofInt_natCast, BitVec.toNat_or, BitVec.toNat_ofNat]
  rw [Nat.mod_eq_of_lt (by omega), Nat.mod_eq_of_lt (by omega)]
  rw [IntKind.wrap_i32]; omega
theorem orB (a b : Nat) (ha : a < 256) (hb : b < 256) : bitI .or .u8 (a : Int) (b : Int) = ((a ||| b : Nat) : Int) := by
  have h : a ||| b < 2 ^ 8 := Nat.or_lt_two_pow (by omega) (by omega)
  show IntKind.u8.wrap ((BitVec.ofInt 8 (a : Int) ||| BitVec.ofInt 8 (b : Int)).toNat : Int) = _
  simp only [BitVec.ofInt_natCast, BitVec.toNat_or, BitVec.toNat_ofNat]
  rw [Nat.mod_eq_of_lt (by omega), Nat.mod_eq_of_lt (by omega)]
  rw [IntKind.wrap_u8]; omega
theorem andB (a b : Nat) (ha : a < 256) (hb : b < 256) : bitI .and .u8 (a : Int) (b : Int) = ((a &&& b : Nat) : Int) := by
  have h : a &&& b ≤ a := Nat.and_le_left
  show IntKind.u8.wrap ((BitVec.ofInt 8 (a : Int) &&& BitVec.ofInt 8 (b : Int)).toNat : Int) = _
  simp only [BitVec.ofInt_natCast, BitVec.toNat_and, BitVec.toNat_ofNat]
  rw [Nat.mod_eq_of_lt (by omega), Nat.mod_eq_of_lt (by omega)]
  rw [IntKind.wrap_u8]; omega
/-- a hexadecimal figure -/
def hexN (n : Nat) : Option Nat := if 48 ≤ n ∧ n ≤ 57 then some (n - 48) else if 65 ≤ n ∧ n ≤ 70 then some (n - 55) else if 97 ≤ n ∧ n ≤ 102 then some (n - 87) else none
theorem hex_tab (n : Nat) (h : n < 256) (hd : ¬ (48 ≤ n ∧ n ≤ 57)) : hexN n = if 97 ≤ n ||| 32 ∧ n ||| 32 ≤ 102 then some ((n ||| 32) - 97 + 10) else none := by
  have : (List.range 256).all (fun n => (decide (48 ≤ n ∧ n ≤ 57)) || decide (hexN n = if 97 ≤ n ||| 32 ∧ n ||| 32 ≤ 102 then some ((n ||| 32) - 97 + 10) else none)) = true := by decide +kernel
  have h1 := List.all_eq_true.1 this n (by simpa using h)
  rw [decide_eq_false hd, Bool.false_or] at h1
  exact of_decide_eq_true h1
theorem hexN_lt (n v : Nat) (h : hexN n = some v) : v < 16 := by
  unfold hexN at h
  split at h
  · injection h with h; omega
  · split at h
    · injection h with h; omega
    · split at h
      · injection h with h; omega
      · cases h
def hexP : Nat → Nat → Bs → Option (Nat × Bs)
  | 0, n, s => some (n, s)
  | _ + 1, _, [] => none
  | k + 1, n, c :: s => match hexN c.toNat with
    | none => none
    | some v => hexP k (16 * n + v) s
theorem hexP_one (k n : Nat) (c : UInt8) (t : Bs) (v : Nat) (h : hexN c.toNat = some v) : hexP (k + 1) n (c :: t) = hexP k (16 * n + v) t := by rw [hexP, h]
theorem hexP_no (k n : Nat) (c : UInt8) (t : Bs) (h : hexN c.toNat = none) : hexP (k + 1) n (c :: t) = none := by rw [hexP, h]
structure RnO where
  n : Nat
  t : Bs
  bad : Bool
/-- what comes of it: a sign, or the text isn't in form -/
def RnF (o : Option (Nat × Bs)) (s : Bs) (bad : Bool) (x : RnO) : Prop := x.t.length ≤ s.length ∧ ((o = none ∧ x.n = 0 ∧ x.bad = true) ∨ (o = some (x.n, x.t) ∧ x.bad = bad))
theorem or16 (n v : Nat) (hn : n < 4096) (hv : v < 16) : bitI .or .i32 ((16 * n : Nat) : Int) (v : Int) = ((16 * n + v : Nat) : Int) := by
  rw [orI _ _ (by omega) (by omega), show 16 * n = n * 2 ^ 4 by omega, or_add n v 4 hv]
structure HxI where
  n : Nat
  t : Bs
  i : Nat
section
variable {b : Nat} {s : Bs} {bad : Bool} {d : Int} {w : World}
set_option maxRecDepth 100000 in
theorem hex_any (h : w.heap[b]? = some (.cells (rdC s bad d) TRd (0, 0))) : Calls Tryd.prog 84 ([pj b] : List Value).toArray w fun e w' => ∃ x : RnO, RnF (hexP 4 0 s) s bad x ∧ e = .returned (.int .i32 x.n) ∧ Upd b (rdC x.t x.bad d) TRd w w' := by
  refine enterUx tab_ok Tryd.func84 rfl Tryd.ntmps84 rfl h ?_
  refine lp tab_ok (fun x : HxI => x.i ≤ 4 ∧ x.n < 16 ^ x.i ∧ hexP 4 0 s = hexP (4 - x.i) x.n x.t ∧ x.t.length ≤ s.length) (fun x => ⟨[(0, pj b), (3, .int .i32 (x.n : Int)), (5, .int .i64 (x.i : Int))], [cl b (rdC x.t bad d) TRd], []⟩) (fun x => 4 - x.i) ⟨0, s, 0⟩ ⟨Nat.zero_le _, Nat.one_pos, rfl, Nat.le_refl _⟩ ⟨⟨rfl, rfl, rfl, trivial⟩, .cons .nil, rfl⟩ ?_
  rintro ⟨n, t, i⟩ ⟨hi, hn, hh, ht⟩
  dsimp only at hi hn hh ht ⊢
  refine cd (fun h4 => ?_) (fun h4 => ?_)
  · have h4' : i < 4 := by omega
    have hn3 : n < 4096 := Nat.lt_of_lt_of_le hn (Nat.pow_le_pow_right (by decide) (show i ≤ 3 by omega))
    refine ld1 0 rfl (v := sj t) rfl ?_
    cases t with
    | nil =>
      refine ct (by simp) ?_
      refine cU1 0 rfl (fun w h => fail_any h) ?_
      exact rtUx (Φ := RnF (hexP 4 0 s) s bad) (⟨0, [], true⟩ : RnO) ⟨Nat.zero_le _, .inl ⟨by rw [hh, show 4 - i = (3 - i) + 1 by omega]; rfl, rfl, rfl⟩⟩ rfl
    | cons c t =>
      have hc := c.toNat_lt
      refine cf (ne0 c t) ?_
      refine ld1 0 rfl (v := sj (c :: t)) rfl ?_
      refine chL 0 rfl rfl ?_
      refine ld1 0 rfl (v := sj (c :: t)) rfl ?_
      refine chL 0 rfl rfl ?_
      have hor : bitI .or .u8 (c.toNat : Int) 32 = ((c.toNat ||| 32 : Nat) : Int) := orB c.toNat 32 hc (by decide)
      by_cases hdg : 48 ≤ c.toNat ∧ c.toNat ≤ 57
      · have f1 : decide ((c.toNat : Int) ≥ 48) = true := decide_eq_true (by omega)
        have f2 : (decide ((c.toNat : Int) ≥ 48) == true) = true := by rw [f1]; rfl
        obtain ⟨v, hvv⟩ : ∃ v, v = c.toNat - 48 := ⟨_, rfl⟩
        have hv : hexN c.toNat = some v := by unfold hexN; rw [if_pos hdg, hvv]
        iterate 4 refine ct f2 ?_
        refine ld1 0 rfl (v := sj (c :: t)) rfl ?_
        refine ct f2 ?_
        refine chL 0 rfl rfl ?_
        refine ct f2 ?_
        refine ct f1 ?_
        refine ct (decide_eq_true (by omega)) ?_
        refine ⟨by decide, .as ((16 * n : Nat) : Int) (by show (n : Int) * 2 ^ 4 = _; omega) (by simp only [mn]; omega) (by simp only [mx]; omega) ?_⟩
        refine ld1 0 rfl (v := sj (c :: t)) rfl ?_
        refine chL 0 rfl rfl ?_
        refine .as (v : Int) (by omega) (by simp only [mn]; omega) (by simp only [mx]; omega) ?_
        refine .same (by simp only [mn]; omega) (by simp only [mx]; omega) ?_
        refine ld1 0 rfl (v := sj (c :: t)) rfl ?_
        refine slL 1 (by simp) rfl ?_
        refine s1 0 rfl (by show 0 < 3; decide) ?_
        refine .as (((i + 1 : Nat) : Int)) (by omega) (by simp only [mn]; omega) (by simp only [mx]; omega) ?_
        exact ⟨⟨16 * n + v, t, i + 1⟩, ⟨by dsimp only; omega, by dsimp only; rw [Nat.pow_succ]; have := hexN_lt _ _ hv; omega, by rw [hh, show 4 - i = (4 - (i + 1)) + 1 by omega, hexP_one _ _ _ _ _ hv], by simp at ht ⊢; omega⟩, by dsimp only; omega, ⟨rfl, congrArg (fun z => some (Value.int .i32 z)) (or16 n v hn3 (hexN_lt _ _ hv)), rfl, trivial⟩, .cons .nil, rfl⟩
      · have htab := hex_tab c.toNat hc hdg
        obtain ⟨m, hm⟩ : ∃ m, m = c.toNat ||| 32 := ⟨_, rfl⟩
        rw [← hm] at htab hor
        by_cases h48 : 48 ≤ c.toNat
        · have f1 : decide ((c.toNat : Int) ≥ 48) = true := decide_eq_true (by omega)
          have f2 : (decide ((c.toNat : Int) ≥ 48) == true) = true := by rw [f1]; rfl
          iterate 4 refine ct f2 ?_
          refine ld1 0 rfl (v := sj (c :: t)) rfl ?_
          refine ct f2 ?_
          refine chL 0 rfl rfl ?_
          refine ct f2 ?_
          refine ct f1 ?_
          refine cf (decide_eq_false (by omega)) ?_
          by_cases h97 : 97 ≤ m
          · have g1 : decide (bitI .or .u8 (c.toNat : Int) 32 ≥ 97) = true := by rw [hor]; exact decide_eq_true (by omega)
            have g2 : (decide (bitI .or .u8 (c.toNat : Int) 32 ≥ 97) == true) = true := by rw [g1]; rfl
            iterate 2 refine ct g2 ?_
            refine ct g1 ?_
            by_cases h102 : m ≤ 102
            · obtain ⟨v, hvv⟩ : ∃ v, v = m - 97 + 10 := ⟨_, rfl⟩
              have hv : hexN c.toNat = some v := by rw [htab, if_pos ⟨h97, h102⟩, hvv]
              refine ct (by rw [hor]; exact decide_eq_true (by omega)) ?_
              refine ⟨by decide, .as ((16 * n : Nat) : Int) (by show (n : Int) * 2 ^ 4 = _; omega) (by simp only [mn]; omega) (by simp only [mx]; omega) ?_⟩
              refine .as ((m - 97 : Nat) : Int) (by rw [hor]; omega) (by simp only [mn]; omega) (by simp only [mx]; omega) ?_
              refine .as (v : Int) (by omega) (by simp only [mn]; omega) (by simp only [mx]; omega) ?_
              refine .same (by simp only [mn]; omega) (by simp only [mx]; omega) ?_
              refine ld1 0 rfl (v := sj (c :: t)) rfl ?_
              refine slL 1 (by simp) rfl ?_
              refine s1 0 rfl (by show 0 < 3; decide) ?_
              refine .as (((i + 1 : Nat) : Int)) (by omega) (by simp only [mn]; omega) (by simp only [mx]; omega) ?_
              exact ⟨⟨16 * n + v, t, i + 1⟩, ⟨by dsimp only; omega, by dsimp only; rw [Nat.pow_succ]; have := hexN_lt _ _ hv; omega, by rw [hh, show 4 - i = (4 - (i + 1)) + 1 by omega, hexP_one _ _ _ _ _ hv], by simp at ht ⊢; omega⟩, by dsimp only; omega, ⟨rfl, congrArg (fun z => some (Value.int .i32 z)) (or16 n v hn3 (hexN_lt _ _ hv)), rfl, trivial⟩, .cons .nil, rfl⟩
            · refine cf (by rw [hor]; exact decide_eq_false (by omega)) ?_
              refine cU1 0 rfl (fun w h => fail_any h) ?_
              exact rtUx (Φ := RnF (hexP 4 0 s) s bad) (⟨0, c :: t, true⟩ : RnO) ⟨ht, .inl ⟨by rw [hh, show 4 - i = (3 - i) + 1 by omega]; exact hexP_no _ _ _ _ (by rw [htab, if_neg (by omega)]), rfl, rfl⟩⟩ rfl
          · have g1 : decide (bitI .or .u8 (c.toNat : Int) 32 ≥ 97) = false := by rw [hor]; exact decide_eq_false (by omega)
            have g2 : (decide (bitI .or .u8 (c.toNat : Int) 32 ≥ 97) == true) = false := by rw [g1]; rfl
            iterate 2 refine cf g2 ?_
            refine cf g1 ?_
            refine cf rfl ?_
            refine cU1 0 rfl (fun w h => fail_any h) ?_
            exact rtUx (Φ := RnF (hexP 4 0 s) s bad) (⟨0, c :: t, true⟩ : RnO) ⟨ht, .inl ⟨by rw [hh, show 4 - i = (3 - i) + 1 by omega]; exact hexP_no _ _ _ _ (by rw [htab, if_neg (by omega)]), rfl, rfl⟩⟩ rfl
        · have f1 : decide ((c.toNat : Int) ≥ 48) = false := decide_eq_false (by omega)
          have f2 : (decide ((c.toNat : Int) ≥ 48) == true) = false := by rw [f1]; rfl
          iterate 6 refine cf f2 ?_
          refine cf f1 ?_
          refine cf rfl ?_
          by_cases h97 : 97 ≤ m
          · have g1 : decide (bitI .or .u8 (c.toNat : Int) 32 ≥ 97) = true := by rw [hor]; exact decide_eq_true (by omega)
            have g2 : (decide (bitI .or .u8 (c.toNat : Int) 32 ≥ 97) == true) = true := by rw [g1]; rfl
            iterate 2 refine ct g2 ?_
            refine ct g1 ?_
            by_cases h102 : m ≤ 102
            · obtain ⟨v, hvv⟩ : ∃ v, v = m - 97 + 10 := ⟨_, rfl⟩
              have hv : hexN c.toNat = some v := by rw [htab, if_pos ⟨h97, h102⟩, hvv]
              refine ct (by rw [hor]; exact decide_eq_true (by omega)) ?_
              refine ⟨by decide, .as ((16 * n : Nat) : Int) (by show (n : Int) * 2 ^ 4 = _; omega) (by simp only [mn]; omega) (by simp only [mx]; omega) ?_⟩
              refine .as ((m - 97 : Nat) : Int) (by rw [hor]; omega) (by simp only [mn]; omega) (by simp only [mx]; omega) ?_
              refine .as (v : Int) (by omega) (by simp only [mn]; omega) (by simp only [mx]; omega) ?_
              refine .same (by simp only [mn]; omega) (by simp only [mx]; omega) ?_
              refine ld1 0 rfl (v := sj (c :: t)) rfl ?_
              refine slL 1 (by simp) rfl ?_
              refine s1 0 rfl (by show 0 < 3; decide) ?_
              refine .as (((i + 1 : Nat) : Int)) (by omega) (by simp only [mn]; omega) (by simp only [mx]; omega) ?_
              exact ⟨⟨16 * n + v, t, i + 1⟩, ⟨by dsimp only; omega, by dsimp only; rw [Nat.pow_succ]; have := hexN_lt _ _ hv; omega, by rw [hh, show 4 - i = (4 - (i + 1)) + 1 by omega, hexP_one _ _ _ _ _ hv], by simp at ht ⊢; omega⟩, by dsimp only; omega, ⟨rfl, congrArg (fun z => some (Value.int .i32 z)) (or16 n v hn3 (hexN_lt _ _ hv)), rfl, trivial⟩, .cons .nil, rfl⟩
            · refine cf (by rw [hor]; exact decide_eq_false (by omega)) ?_
              refine cU1 0 rfl (fun w h => fail_any h) ?_
              exact rtUx (Φ := RnF (hexP 4 0 s) s bad) (⟨0, c :: t, true⟩ : RnO) ⟨ht, .inl ⟨by rw [hh, show 4 - i = (3 - i) + 1 by omega]; exact hexP_no _ _ _ _ (by rw [htab, if_neg (by omega)]), rfl, rfl⟩⟩ rfl
          · have g1 : decide (bitI .or .u8 (c.toNat : Int) 32 ≥ 97) = false := by rw [hor]; exact decide_eq_false (by omega)
            have g2 : (decide (bitI .or .u8 (c.toNat : Int) 32 ≥ 97) == true) = false := by rw [g1]; rfl
            iterate 2 refine cf g2 ?_
            refine cf g1 ?_
            refine cf rfl ?_
            refine cU1 0 rfl (fun w h => fail_any h) ?_
            exact rtUx (Φ := RnF (hexP 4 0 s) s bad) (⟨0, c :: t, true⟩ : RnO) ⟨ht, .inl ⟨by rw [hh, show 4 - i = (3 - i) + 1 by omega]; exact hexP_no _ _ _ _ (by rw [htab, if_neg (by omega)]), rfl, rfl⟩⟩ rfl
  · obtain rfl : i = 4 := by omega
    exact rtUx (Φ := RnF (hexP 4 0 s) s bad) (⟨n, t, bad⟩ : RnO) ⟨ht, .inr ⟨hh, rfl⟩⟩ rfl
end
end Go.Proofs.YtpegkoklmhccjaaDoor
end
section
namespace Go.Proofs.YtpegkoklmhccjaaDoor
open Go.RowKit Go.Sx
set_option linter.unusedVariables false
/-- Go's table of first bytes -/
def fstN (n : Nat) : Nat := if n < 128 then 240 else if n < 194 then 241 else if n < 224 then 2 else if n = 224 then 19 else if n = 237 then 35 else if n < 240 then 3 else if n = 240 then 52 else if n < 244 then 4 else if n = 244 then 68 else 241
/-- Go's table of ranges -/
def accN (i : Nat) : Nat := [128, 191, 160, 191, 128, 159, 144, 191, 128, 143].getD i 0
/-- the tables lie where the program looks -/
structure Laid (w : World) : Prop where
  l0 : 0 < w.heap.size
  l1 : 1 < w.heap.size
  f : ∀ i, i < 256 → w.cell? ⟨0, i, none⟩ = some (.int .u8 (fstN i : Nat))
  a : ∀ i, i < 32 → w.cell? ⟨1, i, none⟩ = some (.int .u8 (accN i : Nat))
def laidR : Res where
  w := fun _ => False
  r := fun k => k = 0 ∨ k = 1
  p := Laid
  st := fun u v h hp => by
    have e0 := h 0 (.inr (.inl rfl))
    have e1 := h 1 (.inr (.inr rfl))
    have lt : ∀ k, k < u.heap.size → v.heap[k]? = u.heap[k]? → k < v.heap.size := fun k h1 h2 => by
      rw [Array.getElem?_eq_getElem h1] at h2
      exact (Array.getElem?_eq_some_iff.1 h2).1
    exact ⟨lt 0 hp.l0 e0, lt 1 hp.l1 e1, fun i hi => by rw [← hp.f i hi]; simp only [World.cell?, e0], fun i hi => by rw [← hp.a i hi]; simp only [World.cell?, e1]⟩
  bd := fun u h k hk => by
    rcases hk with hk | rfl | rfl
    · exact hk.elim
    · exact h.l0
    · exact h.l1
theorem Laid.below {w w' : World} (h : Laid w) (hb : Below w.heap.size w w') : Laid w' := laidR.st w w' (fun k hk => hb.block k (laidR.bd w h k hk)) h
theorem St.laid {w : World} (h : Laid w) : St [] w w [rs laidR] := St.reads fun e he => by
  obtain rfl : e = rs laidR := by simpa using he
  exact ⟨(rsOk laidR w).2 h, fun k hk => (rsW laidR k).1 hk⟩
/-- a first byte's class: how many bytes, which range the second one has -/
def clsP (a : Nat) : Option (Nat × Nat × Nat) := if a < 194 then none else if a < 224 then some (2, 128, 191) else if a = 224 then some (3, 160, 191) else if a = 237 then some (3, 128, 159) else if a < 240 then some (3, 128, 191) else if a = 240 then some (4, 144, 191) else if a < 244 then some (4, 128, 191) else if a = 244 then some (4, 128, 143) else none
def decQ (a : Nat) (r : Bs) : Option (Nat × Nat) := match clsP a with
  | none => none
  | some (z, lo, hi) => match r with
    | [] => none
    | b1 :: r1 => if b1.toNat < lo ∨ hi < b1.toNat then none else if z = 2 then some (a % 32 * 64 + b1.toNat % 64, 2) else match r1 with
      | [] => none
      | b2 :: r2 => if b2.toNat < 128 ∨ 191 < b2.toNat then none else if z = 3 then some (a % 16 * 4096 + b1.toNat % 64 * 64 + b2.toNat % 64, 3) else match r2 with
        | [] => none
        | b3 :: r3 => if b3.toNat < 128 ∨ 191 < b3.toNat then none else some (a % 8 * 262144 + b1.toNat % 64 * 4096 + b2.toNat % 64 * 64 + b3.toNat % 64, 4)
/-- the sign that bytes begin with, and how many bytes it has -/
def decP : Bs → Option (Nat × Nat)
  | [] => none
  | a :: r => if a.toNat < 128 then some (a.toNat, 1) else decQ a.toNat r
theorem cls_tab (a : Nat) (h1 : 128 ≤ a) (h2 : a < 256) : (fstN a = 241 ∧ clsP a = none) ∨ ∃ z lo hi, clsP a = some (z, lo, hi) ∧ (z = 2 ∨ z = 3 ∨ z = 4) ∧ fstN a < 240 ∧ fstN a &&& 7 = z ∧ fstN a / 16 < 5 ∧ accN (fstN a / 16 * 2) = lo ∧ accN (fstN a / 16 * 2 + 1) = hi := by
  have h : (List.range 256).all (fun a => decide (a < 128) || (decide (fstN a = 241) && (clsP a).isNone) || (match clsP a with | none => false | some (z, lo, hi) => (decide (z = 2 ∨ z = 3 ∨ z = 4) && decide (fstN a < 240) && decide (fstN a &&& 7 = z) && decide (fstN a / 16 < 5) && decide (accN (fstN a / 16 * 2) = lo) && decide (accN (fstN a / 16 * 2 + 1) = hi)))) = true := by decide +kernel
  have := List.all_eq_true.1 h a (by simpa using h2)
  simp only [Bool.or_eq_true, Bool.and_eq_true, decide_eq_true_eq] at this
  rcases this with (h | h) | h
  · omega
  · exact .inl ⟨h.1, by simpa using h.2⟩
  · cases hc : clsP a with
    | none => rw [hc] at h; cases h
    | some q =>
      obtain ⟨z, lo, hi⟩ := q
      rw [hc] at h
      simp only [Bool.and_eq_true, decide_eq_true_eq] at h
      exact .inr ⟨z, lo, hi, rfl, h.1.1.1.1.1, h.1.1.1.1.2, h.1.1.1.2, h.1.1.2, h.1.2, h.2⟩
end Go.Proofs.YtpegkoklmhccjaaDoor
end
section
namespace Go.Proofs.YtpegkoklmhccjaaDoor
open Go.RowKit Go.Sx
set_option linter.unusedVariables false
def decR (o : Option (Nat × Nat)) : Value := match o with
  | none => .tuple #[.int .i32 65533, .int .i64 1]
  | some (c, z) => .tuple #[.int .i32 (c : Nat), .int .i64 (z : Nat)]
theorem shrP {k : IntKind} {x : Nat} {y : Int} (n : Nat) (hy : y = n) (hn : n ≤ k.bits) {next : Value → Prop} (go : next (.int k ((x / 2 ^ n : Nat) : Int))) : ShP y (next (.int k ((x : Int).fdiv (2 ^ (min y.toNat k.bits))))) := by
  subst hy
  refine ⟨by omega, ?_⟩
  have e : ((x : Nat) : Int).fdiv (2 ^ (min ((n : Nat) : Int).toNat k.bits)) = ((x / 2 ^ n : Nat) : Int) := by
    rw [Int.toNat_natCast, Nat.min_eq_left hn, Int.fdiv_eq_ediv_of_nonneg _ (by exact Int.le_of_lt (Int.pow_pos (by decide)))]
    norm_cast
  rw [e]; exact go
theorem shlP {k : IntKind} {x : Nat} {y : Int} (n m : Nat) (hy : y = n) (hn : n ≤ k.bits) (hm : x * 2 ^ n = m) (hx : (m : Int) ≤ mx k) {next : Value → Prop} (go : next (.int k (m : Int))) : ShP y (Wr k ((x : Int) * 2 ^ (min y.toNat k.bits)) next) := by
  subst hy
  refine ⟨by omega, .as (m : Int) ?_ (by cases k <;> simp only [mn] <;> omega) hx go⟩
  rw [Int.toNat_natCast, Nat.min_eq_left hn, ← hm]
  norm_cast
theorem and_m (b n : Nat) : b &&& (2 ^ n - 1) = b % 2 ^ n := Nat.and_two_pow_sub_one_eq_mod b n
theorem notM1 (n : Nat) (h : n < 256) : bitI .andNot .i32 (n : Int) (-1) = 0 := by
  have : (List.range 256).all (fun n => bitI .andNot .i32 ((n : Nat) : Int) (-1) == 0) = true := by decide +kernel
  simpa using List.all_eq_true.1 this n (by simpa using h)
theorem decQ_short (a : Nat) (r : Bs) (z lo hi : Nat) (hc : clsP a = some (z, lo, hi)) (hz : z = 2 ∨ z = 3 ∨ z = 4) (h : r.length + 1 < z) : decQ a r = none := by
  unfold decQ
  rw [hc]
  dsimp only
  rcases r with _ | ⟨b1, _ | ⟨b2, _ | ⟨b3, r⟩⟩⟩
  · rfl
  · dsimp only
    split
    · rfl
    · rw [if_neg (by simp at h; omega)]
  · dsimp only
    split
    · rfl
    · rw [if_neg (by simp at h; omega)]
      split
      · rfl
      · rw [if_neg (by simp at h; omega)]
  · simp at h; omega
set_option maxRecDepth 100000 in
set_option maxHeartbeats 4000000 in
theorem slow_any (a : UInt8) (r : Bs) (h128 : 128 ≤ a.toNat) (hl : (a :: r).length ≤ 100000) (w : World) (hw : Laid w) : Calls Tryd.prog 75 ([sj (a :: r)] : List Value).toArray w fun e w' => e = .returned (decR (decQ a.toNat r)) ∧ Below w.heap.size w w' := by
  have ha := a.toNat_lt
  refine enterV tab_ok Tryd.func75 rfl Tryd.ntmps75 rfl (St.laid hw) ?_
  refine cf (decide_eq_false (by rw [str_size]; simp; omega)) ?_
  refine chL 0 rfl rfl ?_
  refine ⟨by omega, by omega, ?_⟩
  refine .mk (.int .u8 (fstN a.toNat : Nat)) (fun w hs => ?_) ?_
  · have hp : Laid w := hs.res (k := 0) rfl
    rw [nad_eq, nmu_eq, Nat.zero_add, Nat.mul_one, Int.toNat_natCast]
    exact hp.f a.toNat (by omega)
  rcases cls_tab a.toNat h128 (by omega) with ⟨hf, hc⟩ | ⟨z, lo, hi, hc, hz, hx, h7, h16, hlo, hhi⟩
  · have hq : decQ a.toNat r = none := by unfold decQ; rw [hc]
    rw [hq, hf]
    refine ct rfl ?_
    refine .same (by decide) (by decide) ?_
    refine ⟨by decide, .to (-2147483648) (by decide) ?_⟩
    refine ⟨by decide, ?_⟩
    refine chL 0 rfl rfl ?_
    refine .same (by simp only [mn]; omega) (by simp only [mx]; omega) ?_
    refine rt ?_
    show Value.tuple #[.int .i32 (bitI .or .i32 (bitI .andNot .i32 (a.toNat : Int) (-1)) (bitI .and .i32 65533 (-1))), .int .i64 1] = _
    rw [notM1 a.toNat (by omega)]
    rfl
  · generalize hxx : fstN a.toNat = x at hx h7 h16 hlo hhi ⊢
    refine cf (decide_eq_false (by omega)) ?_
    refine .as (z : Int) (by rw [show bitI .and .u8 (x : Int) 7 = ((x &&& 7 : Nat) : Int) from andB x 7 (by omega) (by decide), h7]) (by simp only [mn]; omega) (by simp only [mx]; omega) ?_
    have e4 : ((x : Nat) : Int).fdiv (2 ^ (min (4 : Int).toNat IntKind.u8.bits)) = ((x / 16 : Nat) : Int) := by
      rw [show min (4 : Int).toNat IntKind.u8.bits = 4 from rfl, Int.fdiv_eq_ediv_of_nonneg _ (by decide)]
      norm_cast
    refine ⟨by decide, ?_⟩
    refine ⟨by rw [e4]; omega, by rw [e4]; omega, ?_⟩
    refine .mk #[.int .u8 (lo : Nat), .int .u8 (hi : Nat)] rfl (fun w hs => ?_) ?_
    · have hp : Laid w := hs.res (k := 0) rfl
      rw [nad_eq, nmu_eq, Nat.zero_add, e4, Int.toNat_natCast]
      have g0 := hp.a (x / 16 * 2) (by omega)
      have g1 := hp.a (x / 16 * 2 + 1) (by omega)
      rw [hlo] at g0
      rw [hhi] at g1
      intro j v hv
      match j, hv with
      | 0, hv => injection hv with hv; rw [← hv]; exact g0
      | 1, hv => injection hv with hv; rw [← hv]; exact g1
    intro b9
    refine sN 1 rfl rfl (by kernel_rfl) ?_ (by kernel_rfl)
    by_cases hs : r.length + 1 < z
    · refine ct (decide_eq_true (by rw [str_size]; simp; omega)) ?_
      rw [decQ_short a.toNat r z lo hi hc hz hs]
      exact rt rfl
    refine cf (decide_eq_false (by rw [str_size]; simp; omega)) ?_
    obtain ⟨b1, r1, rfl⟩ : ∃ b t, r = b :: t := by
      cases r with
      | nil => simp at hs; omega
      | cons b t => exact ⟨b, t, rfl⟩
    have hb1 := b1.toNat_lt
    have hn : ¬ r1.length + 2 < z := by simpa using hs
    rcases hz with rfl | rfl | rfl
    · refine chL 1 rfl rfl ?_
      refine ld1 1 rfl rfl ?_
      by_cases l1 : b1.toNat < lo
      · have f1 : decide ((b1.toNat : Int) < (lo : Int)) = true := decide_eq_true (by omega)
        have f2 : (decide ((b1.toNat : Int) < (lo : Int)) == false) = false := by rw [f1]; rfl
        iterate 4 refine cf f2 ?_
        refine ct f1 ?_
        refine ct rfl ?_
        have hq : decQ a.toNat (b1 :: r1) = none := by unfold decQ; rw [hc]; dsimp only; rw [if_pos (by omega)]
        rw [hq]
        exact rt rfl
      · have f1 : decide ((b1.toNat : Int) < (lo : Int)) = false := decide_eq_false (by omega)
        have f2 : (decide ((b1.toNat : Int) < (lo : Int)) == false) = true := by rw [f1]; rfl
        refine ct f2 ?_
        refine ct f2 ?_
        refine ld1 1 rfl rfl ?_
        iterate 2 refine ct f2 ?_
        refine cf f1 ?_
        by_cases l2 : hi < b1.toNat
        · refine ct (decide_eq_true (by omega)) ?_
          have hq : decQ a.toNat (b1 :: r1) = none := by unfold decQ; rw [hc]; dsimp only; rw [if_pos (by omega)]
          rw [hq]
          exact rt rfl
        · refine cf (decide_eq_false (by omega)) ?_
          refine ct rfl ?_
          refine .as ((a.toNat % 32 : Nat) : Int) (by rw [show bitI .and .u8 (a.toNat : Int) 31 = ((a.toNat &&& 31 : Nat) : Int) from andB a.toNat 31 (by omega) (by decide), and_m a.toNat 5]) (by simp only [mn]; omega) (by simp only [mx]; omega) ?_
          refine ⟨by decide, .as (((a.toNat % 32) * 64 : Nat) : Int) (by show (((a.toNat % 32) : Nat) : Int) * 2 ^ 6 = _; omega) (by simp only [mn]; omega) (by simp only [mx]; omega) ?_⟩
          refine .as ((b1.toNat % 64 : Nat) : Int) (by rw [show bitI .and .u8 (b1.toNat : Int) 63 = ((b1.toNat &&& 63 : Nat) : Int) from andB b1.toNat 63 (by omega) (by decide), and_m b1.toNat 6]) (by simp only [mn]; omega) (by simp only [mx]; omega) ?_
          refine rt ?_
          have hq : decQ a.toNat (b1 :: r1) = some (a.toNat % 32 * 64 + b1.toNat % 64, 2) := by unfold decQ; rw [hc]; dsimp only; rw [if_neg (by omega)]; rw [if_pos rfl]
          rw [hq]
          have he : bitI .or .i32 (((a.toNat % 32 * 64 : Nat) : Int)) ((b1.toNat % 64 : Nat) : Int) = ((a.toNat % 32 * 64 + b1.toNat % 64 : Nat) : Int) := by
            rw [orI (a.toNat % 32 * 64) (b1.toNat % 64) (by omega) (by omega), show a.toNat % 32 * 64 = (a.toNat % 32) * 2 ^ 6 by omega, or_add (a.toNat % 32) (b1.toNat % 64) 6 (by omega), show (a.toNat % 32) * 2 ^ 6 = a.toNat % 32 * 64 by omega]
          show Value.tuple #[.int .i32 (_), .int .i64 _] = _
          exact congrArg (fun y => Value.tuple #[.int .i32 y, .int .i64 2]) he
    · refine chL 1 rfl rfl ?_
      refine ld1 1 rfl rfl ?_
      by_cases l1 : b1.toNat < lo
      · have f1 : decide ((b1.toNat : Int) < (lo : Int)) = true := decide_eq_true (by omega)
        have f2 : (decide ((b1.toNat : Int) < (lo : Int)) == false) = false := by rw [f1]; rfl
        iterate 4 refine cf f2 ?_
        refine ct f1 ?_
        refine ct rfl ?_
        have hq : decQ a.toNat (b1 :: r1) = none := by unfold decQ; rw [hc]; dsimp only; rw [if_pos (by omega)]
        rw [hq]
        exact rt rfl
      · have f1 : decide ((b1.toNat : Int) < (lo : Int)) = false := decide_eq_false (by omega)
        have f2 : (decide ((b1.toNat : Int) < (lo : Int)) == false) = true := by rw [f1]; rfl
        refine ct f2 ?_
        refine ct f2 ?_
        refine ld1 1 rfl rfl ?_
        iterate 2 refine ct f2 ?_
        refine cf f1 ?_
        by_cases l2 : hi < b1.toNat
        · refine ct (decide_eq_true (by omega)) ?_
          have hq : decQ a.toNat (b1 :: r1) = none := by unfold decQ; rw [hc]; dsimp only; rw [if_pos (by omega)]
          rw [hq]
          exact rt rfl
        · refine cf (decide_eq_false (by omega)) ?_
          refine cf rfl ?_
          obtain ⟨b2, r2, rfl⟩ : ∃ b t, r1 = b :: t := by
            cases r1 with
            | nil => simp at hn
            | cons b t => exact ⟨b, t, rfl⟩
          have hb2 := b2.toNat_lt
          refine chL 2 rfl rfl ?_
          by_cases l1 : b2.toNat < 128
          · have f1 : decide ((b2.toNat : Int) < (128 : Int)) = true := decide_eq_true (by omega)
            have f2 : (decide ((b2.toNat : Int) < (128 : Int)) == false) = false := by rw [f1]; rfl
            iterate 2 refine cf f2 ?_
            refine ct f1 ?_
            refine ct rfl ?_
            have hq : decQ a.toNat (b1 :: b2 :: r2) = none := by unfold decQ; rw [hc]; dsimp only; rw [if_neg (by omega)]; rw [if_neg (by decide)]; rw [if_pos (by omega)]
            rw [hq]
            exact rt rfl
          · have f1 : decide ((b2.toNat : Int) < (128 : Int)) = false := decide_eq_false (by omega)
            have f2 : (decide ((b2.toNat : Int) < (128 : Int)) == false) = true := by rw [f1]; rfl
            iterate 2 refine ct f2 ?_
            refine cf f1 ?_
            by_cases l2 : 191 < b2.toNat
            · refine ct (decide_eq_true (by omega)) ?_
              have hq : decQ a.toNat (b1 :: b2 :: r2) = none := by unfold decQ; rw [hc]; dsimp only; rw [if_neg (by omega)]; rw [if_neg (by decide)]; rw [if_pos (by omega)]
              rw [hq]
              exact rt rfl
            · refine cf (decide_eq_false (by omega)) ?_
              refine ct rfl ?_
              refine .as ((a.toNat % 16 : Nat) : Int) (by rw [show bitI .and .u8 (a.toNat : Int) 15 = ((a.toNat &&& 15 : Nat) : Int) from andB a.toNat 15 (by omega) (by decide), and_m a.toNat 4]) (by simp only [mn]; omega) (by simp only [mx]; omega) ?_
              refine ⟨by decide, .as (((a.toNat % 16) * 4096 : Nat) : Int) (by show (((a.toNat % 16) : Nat) : Int) * 2 ^ 12 = _; omega) (by simp only [mn]; omega) (by simp only [mx]; omega) ?_⟩
              refine .as ((b1.toNat % 64 : Nat) : Int) (by rw [show bitI .and .u8 (b1.toNat : Int) 63 = ((b1.toNat &&& 63 : Nat) : Int) from andB b1.toNat 63 (by omega) (by decide), and_m b1.toNat 6]) (by simp only [mn]; omega) (by simp only [mx]; omega) ?_
              refine ⟨by decide, .as (((b1.toNat % 64) * 64 : Nat) : Int) (by show (((b1.toNat % 64) : Nat) : Int) * 2 ^ 6 = _; omega) (by simp only [mn]; omega) (by simp only [mx]; omega) ?_⟩
              refine .as ((b2.toNat % 64 : Nat) : Int) (by rw [show bitI .and .u8 (b2.toNat : Int) 63 = ((b2.toNat &&& 63 : Nat) : Int) from andB b2.toNat 63 (by omega) (by decide), and_m b2.toNat 6]) (by simp only [mn]; omega) (by simp only [mx]; omega) ?_
              refine rt ?_
              have hq : decQ a.toNat (b1 :: b2 :: r2) = some (a.toNat % 16 * 4096 + b1.toNat % 64 * 64 + b2.toNat % 64, 3) := by unfold decQ; rw [hc]; dsimp only; rw [if_neg (by omega)]; rw [if_neg (by decide)]; rw [if_neg (by omega)]; rw [if_pos rfl]
              rw [hq]
              have he : bitI .or .i32 (bitI .or .i32 (((a.toNat % 16 * 4096 : Nat) : Int)) ((b1.toNat % 64 * 64 : Nat) : Int)) ((b2.toNat % 64 : Nat) : Int) = ((a.toNat % 16 * 4096 + b1.toNat % 64 * 64 + b2.toNat % 64 : Nat) : Int) := by
                rw [orI (a.toNat % 16 * 4096) (b1.toNat % 64 * 64) (by omega) (by omega), show a.toNat % 16 * 4096 = (a.toNat % 16) * 2 ^ 12 by omega, or_add (a.toNat % 16) (b1.toNat % 64 * 64) 12 (by omega), show (a.toNat % 16) * 2 ^ 12 = a.toNat % 16 * 4096 by omega]
                rw [orI (a.toNat % 16 * 4096 + b1.toNat % 64 * 64) (b2.toNat % 64) (by omega) (by omega), show a.toNat % 16 * 4096 + b1.toNat % 64 * 64 = (a.toNat % 16 * 64 + b1.toNat % 64) * 2 ^ 6 by omega, or_add (a.toNat % 16 * 64 + b1.toNat % 64) (b2.toNat % 64) 6 (by omega), show (a.toNat % 16 * 64 + b1.toNat % 64) * 2 ^ 6 = a.toNat % 16 * 4096 + b1.toNat % 64 * 64 by omega]
              show Value.tuple #[.int .i32 (_), .int .i64 _] = _
              exact congrArg (fun y => Value.tuple #[.int .i32 y, .int .i64 3]) he
    · refine chL 1 rfl rfl ?_
      refine ld1 1 rfl rfl ?_
      by_cases l1 : b1.toNat < lo
      · have f1 : decide ((b1.toNat : Int) < (lo : Int)) = true := decide_eq_true (by omega)
        have f2 : (decide ((b1.toNat : Int) < (lo : Int)) == false) = false := by rw [f1]; rfl
        iterate 4 refine cf f2 ?_
        refine ct f1 ?_
        refine ct rfl ?_
        have hq : decQ a.toNat (b1 :: r1) = none := by unfold decQ; rw [hc]; dsimp only; rw [if_pos (by omega)]
        rw [hq]
        exact rt rfl
      · have f1 : decide ((b1.toNat : Int) < (lo : Int)) = false := decide_eq_false (by omega)
        have f2 : (decide ((b1.toNat : Int) < (lo : Int)) == false) = true := by rw [f1]; rfl
        refine ct f2 ?_
        refine ct f2 ?_
        refine ld1 1 rfl rfl ?_
        iterate 2 refine ct f2 ?_
        refine cf f1 ?_
        by_cases l2 : hi < b1.toNat
        · refine ct (decide_eq_true (by omega)) ?_
          have hq : decQ a.toNat (b1 :: r1) = none := by unfold decQ; rw [hc]; dsimp only; rw [if_pos (by omega)]
          rw [hq]
          exact rt rfl
        · refine cf (decide_eq_false (by omega)) ?_
          refine cf rfl ?_
          obtain ⟨b2, r2, rfl⟩ : ∃ b t, r1 = b :: t := by
            cases r1 with
            | nil => simp at hn
            | cons b t => exact ⟨b, t, rfl⟩
          have hb2 := b2.toNat_lt
          refine chL 2 rfl rfl ?_
          by_cases l1 : b2.toNat < 128
          · have f1 : decide ((b2.toNat : Int) < (128 : Int)) = true := decide_eq_true (by omega)
            have f2 : (decide ((b2.toNat : Int) < (128 : Int)) == false) = false := by rw [f1]; rfl
            iterate 2 refine cf f2 ?_
            refine ct f1 ?_
            refine ct rfl ?_
            have hq : decQ a.toNat (b1 :: b2 :: r2) = none := by unfold decQ; rw [hc]; dsimp only; rw [if_neg (by omega)]; rw [if_neg (by decide)]; rw [if_pos (by omega)]
            rw [hq]
            exact rt rfl
          · have f1 : decide ((b2.toNat : Int) < (128 : Int)) = false := decide_eq_false (by omega)
            have f2 : (decide ((b2.toNat : Int) < (128 : Int)) == false) = true := by rw [f1]; rfl
            iterate 2 refine ct f2 ?_
            refine cf f1 ?_
            by_cases l2 : 191 < b2.toNat
            · refine ct (decide_eq_true (by omega)) ?_
              have hq : decQ a.toNat (b1 :: b2 :: r2) = none := by unfold decQ; rw [hc]; dsimp only; rw [if_neg (by omega)]; rw [if_neg (by decide)]; rw [if_pos (by omega)]
              rw [hq]
              exact rt rfl
            · refine cf (decide_eq_false (by omega)) ?_
              refine cf rfl ?_
              obtain ⟨b3, r3, rfl⟩ : ∃ b t, r2 = b :: t := by
                cases r2 with
                | nil => simp at hn
                | cons b t => exact ⟨b, t, rfl⟩
              have hb3 := b3.toNat_lt
              refine chL 3 rfl rfl ?_
              by_cases l1 : b3.toNat < 128
              · have f1 : decide ((b3.toNat : Int) < (128 : Int)) = true := decide_eq_true (by omega)
                have f2 : (decide ((b3.toNat : Int) < (128 : Int)) == false) = false := by rw [f1]; rfl
                iterate 2 refine cf f2 ?_
                refine ct f1 ?_
                refine ct rfl ?_
                have hq : decQ a.toNat (b1 :: b2 :: b3 :: r3) = none := by unfold decQ; rw [hc]; dsimp only; rw [if_neg (by omega)]; rw [if_neg (by decide)]; rw [if_neg (by omega)]; rw [if_neg (by decide)]; rw [if_pos (by omega)]
                rw [hq]
                exact rt rfl
              · have f1 : decide ((b3.toNat : Int) < (128 : Int)) = false := decide_eq_false (by omega)
                have f2 : (decide ((b3.toNat : Int) < (128 : Int)) == false) = true := by rw [f1]; rfl
                iterate 2 refine ct f2 ?_
                refine cf f1 ?_
                by_cases l2 : 191 < b3.toNat
                · refine ct (decide_eq_true (by omega)) ?_
                  have hq : decQ a.toNat (b1 :: b2 :: b3 :: r3) = none := by unfold decQ; rw [hc]; dsimp only; rw [if_neg (by omega)]; rw [if_neg (by decide)]; rw [if_neg (by omega)]; rw [if_neg (by decide)]; rw [if_pos (by omega)]
                  rw [hq]
                  exact rt rfl
                · refine cf (decide_eq_false (by omega)) ?_
                  refine .as ((a.toNat % 8 : Nat) : Int) (by rw [show bitI .and .u8 (a.toNat : Int) 7 = ((a.toNat &&& 7 : Nat) : Int) from andB a.toNat 7 (by omega) (by decide), and_m a.toNat 3]) (by simp only [mn]; omega) (by simp only [mx]; omega) ?_
                  refine ⟨by decide, .as (((a.toNat % 8) * 262144 : Nat) : Int) (by show (((a.toNat % 8) : Nat) : Int) * 2 ^ 18 = _; omega) (by simp only [mn]; omega) (by simp only [mx]; omega) ?_⟩
                  refine .as ((b1.toNat % 64 : Nat) : Int) (by rw [show bitI .and .u8 (b1.toNat : Int) 63 = ((b1.toNat &&& 63 : Nat) : Int) from andB b1.toNat 63 (by omega) (by decide), and_m b1.toNat 6]) (by simp only [mn]; omega) (by simp only [mx]; omega) ?_
                  refine ⟨by decide, .as (((b1.toNat % 64) * 4096 : Nat) : Int) (by show (((b1.toNat % 64) : Nat) : Int) * 2 ^ 12 = _; omega) (by simp only [mn]; omega) (by simp only [mx]; omega) ?_⟩
                  refine .as ((b2.toNat % 64 : Nat) : Int) (by rw [show bitI .and .u8 (b2.toNat : Int) 63 = ((b2.toNat &&& 63 : Nat) : Int) from andB b2.toNat 63 (by omega) (by decide), and_m b2.toNat 6]) (by simp only [mn]; omega) (by simp only [mx]; omega) ?_
                  refine ⟨by decide, .as (((b2.toNat % 64) * 64 : Nat) : Int) (by show (((b2.toNat % 64) : Nat) : Int) * 2 ^ 6 = _; omega) (by simp only [mn]; omega) (by simp only [mx]; omega) ?_⟩
                  refine .as ((b3.toNat % 64 : Nat) : Int) (by rw [show bitI .and .u8 (b3.toNat : Int) 63 = ((b3.toNat &&& 63 : Nat) : Int) from andB b3.toNat 63 (by omega) (by decide), and_m b3.toNat 6]) (by simp only [mn]; omega) (by simp only [mx]; omega) ?_
                  refine rt ?_
                  have hq : decQ a.toNat (b1 :: b2 :: b3 :: r3) = some (a.toNat % 8 * 262144 + b1.toNat % 64 * 4096 + b2.toNat % 64 * 64 + b3.toNat % 64, 4) := by unfold decQ; rw [hc]; dsimp only; rw [if_neg (by omega)]; rw [if_neg (by decide)]; rw [if_neg (by omega)]; rw [if_neg (by decide)]; rw [if_neg (by omega)]; 
                  rw [hq]
                  have he : bitI .or .i32 (bitI .or .i32 (bitI .or .i32 (((a.toNat % 8 * 262144 : Nat) : Int)) ((b1.toNat % 64 * 4096 : Nat) : Int)) ((b2.toNat % 64 * 64 : Nat) : Int)) ((b3.toNat % 64 : Nat) : Int) = ((a.toNat % 8 * 262144 + b1.toNat % 64 * 4096 + b2.toNat % 64 * 64 + b3.toNat % 64 : Nat) : Int) := by
                    rw [orI (a.toNat % 8 * 262144) (b1.toNat % 64 * 4096) (by omega) (by omega), show a.toNat % 8 * 262144 = (a.toNat % 8) * 2 ^ 18 by omega, or_add (a.toNat % 8) (b1.toNat % 64 * 4096) 18 (by omega), show (a.toNat % 8) * 2 ^ 18 = a.toNat % 8 * 262144 by omega]
                    rw [orI (a.toNat % 8 * 262144 + b1.toNat % 64 * 4096) (b2.toNat % 64 * 64) (by omega) (by omega), show a.toNat % 8 * 262144 + b1.toNat % 64 * 4096 = (a.toNat % 8 * 64 + b1.toNat % 64) * 2 ^ 12 by omega, or_add (a.toNat % 8 * 64 + b1.toNat % 64) (b2.toNat % 64 * 64) 12 (by omega), show (a.toNat % 8 * 64 + b1.toNat % 64) * 2 ^ 12 = a.toNat % 8 * 262144 + b1.toNat % 64 * 4096 by omega]
                    rw [orI (a.toNat % 8 * 262144 + b1.toNat % 64 * 4096 + b2.toNat % 64 * 64) (b3.toNat % 64) (by omega) (by omega), show a.toNat % 8 * 262144 + b1.toNat % 64 * 4096 + b2.toNat % 64 * 64 = (a.toNat % 8 * 4096 + b1.toNat % 64 * 64 + b2.toNat % 64) * 2 ^ 6 by omega, or_add (a.toNat % 8 * 4096 + b1.toNat % 64 * 64 + b2.toNat % 64) (b3.toNat % 64) 6 (by omega), show (a.toNat % 8 * 4096 + b1.toNat % 64 * 64 + b2.toNat % 64) * 2 ^ 6 = a.toNat % 8 * 262144 + b1.toNat % 64 * 4096 + b2.toNat % 64 * 64 by omega]
                  show Value.tuple #[.int .i32 (_), .int .i64 _] = _
                  exact congrArg (fun y => Value.tuple #[.int .i32 y, .int .i64 4]) he
end Go.Proofs.YtpegkoklmhccjaaDoor
end
section
namespace Go.Proofs.YtpegkoklmhccjaaDoor
open Go.RowKit Go.Sx
set_option linter.unusedVariables false
theorem sv_slice {r : Sx.Own} {n : Nat} {xs : List Value} (h : Rw 1 n r xs) : ∃ a c, sv r n = .slice a n c := by
  cases r with
  | none => obtain rfl : n = 0 := h.2; exact ⟨_, _, rfl⟩
  | some q => exact ⟨_, _, rfl⟩
theorem shI {c : Nat} (s m : Nat) (hm : 2 ^ s = m) (hs : s ≤ 32) : (c : Int).fdiv (2 ^ (min ((s : Nat) : Int).toNat IntKind.i32.bits)) = ((c / m : Nat) : Int) := by
  rw [show IntKind.i32.bits = 32 from rfl, Int.toNat_natCast, Nat.min_eq_left hs, Int.fdiv_eq_ediv_of_nonneg _ (Int.le_of_lt (Int.pow_pos (by decide))), ← hm]
  norm_cast
theorem or8 (x j v : Nat) (hv : v < 2 ^ j) (hx : x * 2 ^ j + v < 256) : bitI .or .u8 ((x * 2 ^ j : Nat) : Int) (v : Int) = ((UInt8.ofNat (x * 2 ^ j + v)).toNat : Int) := by
  rw [orB _ _ (by omega) (by omega), or_add x v j hv, UInt8.toNat_ofNat', Nat.mod_eq_of_lt (by omega)]
theorem and63 (m : Nat) : bitI .and .u8 ((m % 256 : Nat) : Int) 63 = ((m % 64 : Nat) : Int) := by
  rw [show bitI .and .u8 ((m % 256 : Nat) : Int) 63 = ((m % 256 &&& 63 : Nat) : Int) from andB (m % 256) 63 (by omega) (by decide), show (63 : Nat) = 2 ^ 6 - 1 from rfl, and_m]
  congr 1; omega
theorem mid8 (m : Nat) : bitI .or .u8 128 (bitI .and .u8 ((m % 256 : Nat) : Int) 63) = ((UInt8.ofNat (128 + m % 64)).toNat : Int) := by
  rw [and63]; exact or8 2 6 (m % 64) (by omega) (by omega)
/-- a sign's bytes -/
def encP (c : Nat) : Bs := if c ≤ 127 then [UInt8.ofNat c] else if c ≤ 2047 then [UInt8.ofNat (192 + c / 64), UInt8.ofNat (128 + c % 64)] else if c < 55296 ∨ (57343 < c ∧ c ≤ 65535) then [UInt8.ofNat (224 + c / 4096), UInt8.ofNat (128 + c / 64 % 64), UInt8.ofNat (128 + c % 64)] else if 65535 < c ∧ c ≤ 1114111 then [UInt8.ofNat (240 + c / 262144), UInt8.ofNat (128 + c / 4096 % 64), UInt8.ofNat (128 + c / 64 % 64), UInt8.ofNat (128 + c % 64)] else [239, 191, 189]
theorem encP_len (c : Nat) : 1 ≤ (encP c).length ∧ (encP c).length ≤ 4 := by unfold encP; (repeat' split) <;> simp
theorem bsN2 (x0 x1 : Int) (w : World) : (Instr.buildSlice 38 2 #[(0, .int .u8 x0), (1, .int .u8 x1)]).run Tryd.prog w = .ok (.slice (some ⟨w.heap.size, 0, none⟩) 2 2) (w.alloc (.cells #[.int .u8 x0, .int .u8 x1] 5)) := by
  obtain ⟨i, hi, hz, hs, hb⟩ := infoOf info5
  exact run_buildSlice w _ _ 2 _ #[.int .u8 x0, .int .u8 x1] i (.int .u8 0) und22 hi hz (by rw [hs]; decide) (by rw [hs]; decide) (by rw [hs]; kernel_rfl)
theorem bsN3 (x0 x1 x2 : Int) (w : World) : (Instr.buildSlice 38 3 #[(0, .int .u8 x0), (1, .int .u8 x1), (2, .int .u8 x2)]).run Tryd.prog w = .ok (.slice (some ⟨w.heap.size, 0, none⟩) 3 3) (w.alloc (.cells #[.int .u8 x0, .int .u8 x1, .int .u8 x2] 5)) := by
  obtain ⟨i, hi, hz, hs, hb⟩ := infoOf info5
  exact run_buildSlice w _ _ 3 _ #[.int .u8 x0, .int .u8 x1, .int .u8 x2] i (.int .u8 0) und22 hi hz (by rw [hs]; decide) (by rw [hs]; decide) (by rw [hs]; kernel_rfl)
theorem bsN4 (x0 x1 x2 x3 : Int) (w : World) : (Instr.buildSlice 38 4 #[(0, .int .u8 x0), (1, .int .u8 x1), (2, .int .u8 x2), (3, .int .u8 x3)]).run Tryd.prog w = .ok (.slice (some ⟨w.heap.size, 0, none⟩) 4 4) (w.alloc (.cells #[.int .u8 x0, .int .u8 x1, .int .u8 x2, .int .u8 x3] 5)) := by
  obtain ⟨i, hi, hz, hs, hb⟩ := infoOf info5
  exact run_buildSlice w _ _ 4 _ #[.int .u8 x0, .int .u8 x1, .int .u8 x2, .int .u8 x3] i (.int .u8 0) und22 hi hz (by rw [hs]; decide) (by rw [hs]; decide) (by rw [hs]; kernel_rfl)
section
variable {N : Nat} {M : Bks} {B : World} {F : Option Nat} {L : List Ent} {next : Value → List Ent → Prop}
theorem sub1 {k : Nat} {f h : Ent} {l : List Ent} (hk : L[k]? = some h) : Sub (L.set k f) ((L ++ l).set k f) := by
  rw [List.set_append_left _ _ (List.getElem?_eq_some_iff.1 hk).1]; exact sub_app l
set_option maxRecDepth 100000 in
theorem aRune2 (kr : Nat) {r : Sx.Own} {n c : Nat} {xs : List Value} (hr : L[kr]? = some (se r xs 5)) (hR : Rw 1 n r xs) (hn : n ≤ 1000000000) (h1 : 128 ≤ c) (hc : c < 2147483648)
    (go : ∀ r' m, m = (encP c).length → Rw 1 (n + m) r' (xs ++ Lib.byteCells (encP c)) → next (sv r' (n + m)) (L.set kr (se r' (xs ++ Lib.byteCells (encP c)) 5))) : CallP ⟨Tryd.prog, tab, N, M, B, F⟩ 83 [sv r n, .int .i32 (c : Nat)] L next := by
  refine inl (C := ⟨Tryd.prog, tab, N, M, B, F⟩) tab_ok Tryd.func83 rfl Tryd.ntmps83 rfl ?_
  refine .same (by simp only [mn]; omega) (by simp only [mx]; omega) ?_
  refine cd (fun h2 => ?_) (fun h2 => ?_)
  · have henc : encP c = [UInt8.ofNat (192 + c / 64), UInt8.ofNat (128 + c % 64)] := by unfold encP; rw [if_neg (by omega), if_pos (by omega)]
    rw [henc] at go
    have e0 : bitI .or .u8 192 ((c / 64 : Nat) : Int) = ((UInt8.ofNat (192 + c / 64)).toNat : Int) := or8 3 6 (c / 64) (by omega) (by omega)
    refine ⟨by decide, ?_⟩
    refine .as ((c / 64 : Nat) : Int) (shI 6 64 rfl (by decide)) (by simp only [mn]; omega) (by simp only [mx]; omega) ?_
    refine .to ((c % 256 : Nat) : Int) (by show (c : Int) % 256 = _; omega) ?_
    refine .mk #[.int .u8 (UInt8.ofNat (192 + c / 64)).toNat, .int .u8 (UInt8.ofNat (128 + c % 64)).toNat] _ (fun w => by rw [e0, mid8 c]; exact bsN2 _ _ w) (fun b' => ?_)
    refine ap kr (news := [.int .u8 (UInt8.ofNat (192 + c / 64)).toNat, .int .u8 (UInt8.ofNat (128 + c % 64)).toNat]) (m := 2) tab_ok rfl info5 rfl (at_app hr) hR (srcE (C := ⟨Tryd.prog, tab, 78, M, B, none⟩) (e' := 5) (tx := 38) (z := 1) rfl tab_ok (src _ (at_new) rfl) rfl (by simp [Value.oneCell'])) (by omega) (by unfold maxLen; omega) (fun r' hR' => ?_)
    exact bkS (sub1 hr) (go _ _ rfl hR')
  · have n2 : ¬ c ≤ 2047 := by omega
    refine cd (fun h3 => ?_) (fun h3 => ?_)
    · have henc : encP c = [UInt8.ofNat (224 + c / 4096), UInt8.ofNat (128 + c / 64 % 64), UInt8.ofNat (128 + c % 64)] := by unfold encP; rw [if_neg (by omega), if_neg n2, if_pos (by omega)]
      rw [henc] at go
      refine ct (decide_eq_true h3) ?_
      have e0 : bitI .or .u8 224 ((c / 4096 : Nat) : Int) = ((UInt8.ofNat (224 + c / 4096)).toNat : Int) := or8 14 4 (c / 4096) (by omega) (by omega)
      refine ⟨by decide, ?_⟩
      refine .as ((c / 4096 : Nat) : Int) (shI 12 4096 rfl (by decide)) (by simp only [mn]; omega) (by simp only [mx]; omega) ?_
      refine ⟨by decide, ?_⟩
      refine .to ((c / 64 % 256 : Nat) : Int) ((congrArg (modk .u8) (shI 6 64 rfl (by decide))).trans (by show ((c / 64 : Nat) : Int) % 256 = _; omega)) ?_
      refine .to ((c % 256 : Nat) : Int) (by show (c : Int) % 256 = _; omega) ?_
      refine .mk #[.int .u8 (UInt8.ofNat (224 + c / 4096)).toNat, .int .u8 (UInt8.ofNat (128 + c / 64 % 64)).toNat, .int .u8 (UInt8.ofNat (128 + c % 64)).toNat] _ (fun w => by rw [e0, mid8 (c / 64), mid8 c]; exact bsN3 _ _ _ w) (fun b' => ?_)
      refine ap kr (news := [.int .u8 (UInt8.ofNat (224 + c / 4096)).toNat, .int .u8 (UInt8.ofNat (128 + c / 64 % 64)).toNat, .int .u8 (UInt8.ofNat (128 + c % 64)).toNat]) (m := 3) tab_ok rfl info5 rfl (at_app hr) hR (srcE (C := ⟨Tryd.prog, tab, 78, M, B, none⟩) (e' := 5) (tx := 38) (z := 1) rfl tab_ok (src _ (at_new) rfl) rfl (by simp [Value.oneCell'])) (by omega) (by unfold maxLen; omega) (fun r' hR' => ?_)
      exact bkS (sub1 hr) (go _ _ rfl hR')
    · by_cases h4 : 57343 < c
      · have f1 : decide ((57343 : Int) < (c : Int)) = true := decide_eq_true (by omega)
        have f2 : (decide ((57343 : Int) < (c : Int)) == true) = true := by rw [f1]; rfl
        iterate 2 refine ct f2 ?_
        refine ct f1 ?_
        by_cases h5 : c ≤ 65535
        · have henc : encP c = [UInt8.ofNat (224 + c / 4096), UInt8.ofNat (128 + c / 64 % 64), UInt8.ofNat (128 + c % 64)] := by unfold encP; rw [if_neg (by omega), if_neg n2, if_pos (by omega)]
          rw [henc] at go
          refine ct (decide_eq_true (by omega)) ?_
          have e0 : bitI .or .u8 224 ((c / 4096 : Nat) : Int) = ((UInt8.ofNat (224 + c / 4096)).toNat : Int) := or8 14 4 (c / 4096) (by omega) (by omega)
          refine ⟨by decide, ?_⟩
          refine .as ((c / 4096 : Nat) : Int) (shI 12 4096 rfl (by decide)) (by simp only [mn]; omega) (by simp only [mx]; omega) ?_
          refine ⟨by decide, ?_⟩
          refine .to ((c / 64 % 256 : Nat) : Int) ((congrArg (modk .u8) (shI 6 64 rfl (by decide))).trans (by show ((c / 64 : Nat) : Int) % 256 = _; omega)) ?_
          refine .to ((c % 256 : Nat) : Int) (by show (c : Int) % 256 = _; omega) ?_
          refine .mk #[.int .u8 (UInt8.ofNat (224 + c / 4096)).toNat, .int .u8 (UInt8.ofNat (128 + c / 64 % 64)).toNat, .int .u8 (UInt8.ofNat (128 + c % 64)).toNat] _ (fun w => by rw [e0, mid8 (c / 64), mid8 c]; exact bsN3 _ _ _ w) (fun b' => ?_)
          refine ap kr (news := [.int .u8 (UInt8.ofNat (224 + c / 4096)).toNat, .int .u8 (UInt8.ofNat (128 + c / 64 % 64)).toNat, .int .u8 (UInt8.ofNat (128 + c % 64)).toNat]) (m := 3) tab_ok rfl info5 rfl (at_app hr) hR (srcE (C := ⟨Tryd.prog, tab, 78, M, B, none⟩) (e' := 5) (tx := 38) (z := 1) rfl tab_ok (src _ (at_new) rfl) rfl (by simp [Value.oneCell'])) (by omega) (by unfold maxLen; omega) (fun r' hR' => ?_)
          exact bkS (sub1 hr) (go _ _ rfl hR')
        · refine cf (decide_eq_false (by omega)) ?_
          have f1 : decide ((c : Int) > 65535) = true := decide_eq_true (by omega)
          have f2 : (decide ((c : Int) > 65535) == true) = true := by rw [f1]; rfl
          iterate 2 refine ct f2 ?_
          refine ct f1 ?_
          refine cd (fun h6 => ?_) (fun h6 => ?_)
          · have henc : encP c = [UInt8.ofNat (240 + c / 262144), UInt8.ofNat (128 + c / 4096 % 64), UInt8.ofNat (128 + c / 64 % 64), UInt8.ofNat (128 + c % 64)] := by unfold encP; rw [if_neg (by omega), if_neg n2, if_neg (by omega), if_pos (by omega)]
            rw [henc] at go
            have e0 : bitI .or .u8 240 ((c / 262144 : Nat) : Int) = ((UInt8.ofNat (240 + c / 262144)).toNat : Int) := or8 30 3 (c / 262144) (by omega) (by omega)
            refine ⟨by decide, ?_⟩
            refine .as ((c / 262144 : Nat) : Int) (shI 18 262144 rfl (by decide)) (by simp only [mn]; omega) (by simp only [mx]; omega) ?_
            refine ⟨by decide, ?_⟩
            refine .to ((c / 4096 % 256 : Nat) : Int) ((congrArg (modk .u8) (shI 12 4096 rfl (by decide))).trans (by show ((c / 4096 : Nat) : Int) % 256 = _; omega)) ?_
            refine ⟨by decide, ?_⟩
            refine .to ((c / 64 % 256 : Nat) : Int) ((congrArg (modk .u8) (shI 6 64 rfl (by decide))).trans (by show ((c / 64 : Nat) : Int) % 256 = _; omega)) ?_
            refine .to ((c % 256 : Nat) : Int) (by show (c : Int) % 256 = _; omega) ?_
            refine .mk #[.int .u8 (UInt8.ofNat (240 + c / 262144)).toNat, .int .u8 (UInt8.ofNat (128 + c / 4096 % 64)).toNat, .int .u8 (UInt8.ofNat (128 + c / 64 % 64)).toNat, .int .u8 (UInt8.ofNat (128 + c % 64)).toNat] _ (fun w => by rw [e0, mid8 (c / 4096), mid8 (c / 64), mid8 c]; exact bsN4 _ _ _ _ w) (fun b' => ?_)
            refine ap kr (news := [.int .u8 (UInt8.ofNat (240 + c / 262144)).toNat, .int .u8 (UInt8.ofNat (128 + c / 4096 % 64)).toNat, .int .u8 (UInt8.ofNat (128 + c / 64 % 64)).toNat, .int .u8 (UInt8.ofNat (128 + c % 64)).toNat]) (m := 4) tab_ok rfl info5 rfl (at_app hr) hR (srcE (C := ⟨Tryd.prog, tab, 78, M, B, none⟩) (e' := 5) (tx := 38) (z := 1) rfl tab_ok (src _ (at_new) rfl) rfl (by simp [Value.oneCell'])) (by omega) (by unfold maxLen; omega) (fun r' hR' => ?_)
            exact bkS (sub1 hr) (go _ _ rfl hR')
          · have henc : encP c = [239, 191, 189] := by unfold encP; rw [if_neg (by omega), if_neg n2, if_neg (by omega), if_neg (by omega)]
            rw [henc] at go
            refine .mk #[.int .u8 (239 : UInt8).toNat, .int .u8 (191 : UInt8).toNat, .int .u8 (189 : UInt8).toNat] _ (fun w => bsN3 _ _ _ w) (fun b' => ?_)
            refine ap kr (news := [.int .u8 (239 : UInt8).toNat, .int .u8 (191 : UInt8).toNat, .int .u8 (189 : UInt8).toNat]) (m := 3) tab_ok rfl info5 rfl (at_app hr) hR (srcE (C := ⟨Tryd.prog, tab, 78, M, B, none⟩) (e' := 5) (tx := 38) (z := 1) rfl tab_ok (src _ (at_new) rfl) rfl (by simp [Value.oneCell'])) (by omega) (by unfold maxLen; omega) (fun r' hR' => ?_)
            exact bkS (sub1 hr) (go _ _ rfl hR')
      · have f1 : decide ((57343 : Int) < (c : Int)) = false := decide_eq_false (by omega)
        have f2 : (decide ((57343 : Int) < (c : Int)) == true) = false := by rw [f1]; rfl
        iterate 2 refine cf f2 ?_
        refine cf f1 ?_
        refine cf rfl ?_
        have g1 : decide ((c : Int) > 65535) = false := decide_eq_false (by omega)
        have g2 : (decide ((c : Int) > 65535) == true) = false := by rw [g1]; rfl
        iterate 2 refine cf g2 ?_
        refine cf g1 ?_
        refine cf rfl ?_
        have henc : encP c = [239, 191, 189] := by unfold encP; rw [if_neg (by omega), if_neg n2, if_neg (by omega), if_neg (by omega)]
        rw [henc] at go
        refine .mk #[.int .u8 (239 : UInt8).toNat, .int .u8 (191 : UInt8).toNat, .int .u8 (189 : UInt8).toNat] _ (fun w => bsN3 _ _ _ w) (fun b' => ?_)
        refine ap kr (news := [.int .u8 (239 : UInt8).toNat, .int .u8 (191 : UInt8).toNat, .int .u8 (189 : UInt8).toNat]) (m := 3) tab_ok rfl info5 rfl (at_app hr) hR (srcE (C := ⟨Tryd.prog, tab, 78, M, B, none⟩) (e' := 5) (tx := 38) (z := 1) rfl tab_ok (src _ (at_new) rfl) rfl (by simp [Value.oneCell'])) (by omega) (by unfold maxLen; omega) (fun r' hR' => ?_)
        exact bkS (sub1 hr) (go _ _ rfl hR')
set_option maxRecDepth 100000 in
theorem aRune (kr : Nat) {r : Sx.Own} {n c : Nat} {xs : List Value} (hr : L[kr]? = some (se r xs 5)) (hR : Rw 1 n r xs) (hn : n ≤ 1000000000) (hc : c < 2147483648)
    (go : ∀ r' m, m = (encP c).length → Rw 1 (n + m) r' (xs ++ Lib.byteCells (encP c)) → next (sv r' (n + m)) (L.set kr (se r' (xs ++ Lib.byteCells (encP c)) 5))) : CallP ⟨Tryd.prog, tab, N, M, B, F⟩ 77 [sv r n, .int .i32 (c : Nat)] L next := by
  refine inl (C := ⟨Tryd.prog, tab, N, M, B, F⟩) tab_ok Tryd.func77 rfl Tryd.ntmps77 rfl ?_
  refine .same (by simp only [mn]; omega) (by simp only [mx]; omega) ?_
  refine cd (fun h2 => ?_) (fun h2 => ?_)
  · have henc : encP c = [UInt8.ofNat c] := by unfold encP; rw [if_pos (by omega)]
    have e0 : (c : Int) = ((UInt8.ofNat c).toNat : Int) := by rw [UInt8.toNat_ofNat', Nat.mod_eq_of_lt (by omega)]
    rw [henc] at go
    refine .as ((UInt8.ofNat c).toNat : Int) e0 (by simp only [mn]; omega) (by rw [← e0]; simp only [mx]; omega) ?_
    refine .mk #[.int .u8 (UInt8.ofNat c).toNat] _ (fun w => bs1 _ w) (fun b' => ?_)
    refine ap kr (news := [.int .u8 (UInt8.ofNat c).toNat]) (m := 1) tab_ok rfl info5 rfl (at_app hr) hR (srcE (C := ⟨Tryd.prog, tab, 16, M, B, none⟩) (e' := 5) (tx := 38) (z := 1) rfl tab_ok (src _ (at_new) rfl) rfl (by simp [Value.oneCell'])) (by omega) (by unfold maxLen; omega) (fun r' hR' => ?_)
    exact bkS (sub1 hr) (go _ _ rfl hR')
  · exact aRune2 kr hr hR hn (by omega) hc fun r' m hm hR' => bk (go r' m hm hR')
theorem aRuneV (kr : Nat) {r : Sx.Own} {n c : Nat} {xs : List Value} {v : Value} (hv : sv r n = v) (hr : L[kr]? = some (se r xs 5)) (hR : Rw 1 n r xs) (hn : n ≤ 1000000000) (hc : c < 2147483648)
    (go : ∀ r' m a' c', m = (encP c).length → sv r' (n + m) = .slice a' (n + m) c' → Rw 1 (n + m) r' (xs ++ Lib.byteCells (encP c)) → next (.slice a' (n + m) c') (L.set kr (se r' (xs ++ Lib.byteCells (encP c)) 5))) : CallP ⟨Tryd.prog, tab, N, M, B, F⟩ 77 [v, .int .i32 (c : Nat)] L next := by
  subst hv
  refine aRune kr hr hR hn hc fun r' m hm hR' => ?_
  obtain ⟨a', c', e⟩ := sv_slice hR'
  rw [e]; exact go r' m a' c' hm e hR'
theorem set3 {k kr : Nat} {e1 e2 f : Ent} (hkr : k ≠ kr) : ((L.set k e1).set kr f).set k e2 = (L.set k e2).set kr f := by
  rw [List.set_comm _ _ (Ne.symm hkr), List.set_set]
set_option maxRecDepth 100000 in
/-- a sign is written -/
theorem bRune (k kr : Nat) {b n c : Nat} {p : Value} {r : Sx.Own} {xs : List Value} (hk : L[k]? = some (cl b #[p, sv r n] TB)) (hp : p = .pointer none ∨ p = ptr b) (hr : L[kr]? = some (se r xs 5)) (hkr : k ≠ kr) (hR : Rw 1 n r xs) (hn : n ≤ 1000000000) (hc : c < 2147483648)
    (go : ∀ u r' m, m = (encP c).length → Rw 1 (n + m) r' (xs ++ Lib.byteCells (encP c)) → next u ((L.set k (cl b #[ptr b, sv r' (n + m)] TB)).set kr (se r' (xs ++ Lib.byteCells (encP c)) 5))) : CallP ⟨Tryd.prog, tab, N, M, B, F⟩ 64 [ptr b, .int .i32 (c : Nat)] L next := by
  obtain ⟨a, cc, e⟩ := sv_slice hR
  rw [e] at hk
  refine inl (C := ⟨Tryd.prog, tab, N, M, B, F⟩) tab_ok Tryd.func64 rfl Tryd.ntmps64 rfl ?_
  refine bCheck k hk hp ?_
  refine ld1 k (at_set hk) rfl ?_
  refine ld1 k (at_set hk) rfl ?_
  refine aRuneV kr e (len_set hr hkr) hR hn hc (fun r' m a' c' hm e' hR' => ?_)
  have hl := (encP_len c).2
  refine s1 k (len_set (at_set hk) (Ne.symm hkr)) (Nat.lt_succ_self 1) ?_
  have hk3 : ((L.set k (cl b #[ptr b, .slice a n cc] TB)).set kr (se r' (xs ++ Lib.byteCells (encP c)) 5))[k]? = some _ := len_set (at_set hk) (Ne.symm hkr)
  refine ld1 k (at_set hk3) rfl ?_
  refine .as (m : Int) (by push_cast; omega) (by simp only [mn]; omega) (by simp only [mx]; omega) ?_
  refine bk ?_
  rw [set3 hkr]
  have g := fun u => go u r' m hm hR'
  simp only [e'] at g
  exact g _
end
end Go.Proofs.YtpegkoklmhccjaaDoor
end
section
namespace Go.Proofs.YtpegkoklmhccjaaDoor
open Go.RowKit Go.Sx
set_option linter.unusedVariables false
/-- what DecodeRuneInString says -/
def decV (s : Bs) : Value := match s with
  | [] => .tuple #[.int .i32 65533, .int .i64 0]
  | a :: r => decR (decP (a :: r))
set_option maxRecDepth 100000 in
theorem slow_nil (w : World) : Calls Tryd.prog 75 ([sj []] : List Value).toArray w fun e w' => e = .returned (decV []) ∧ Below w.heap.size w w' := by
  refine enterV tab_ok Tryd.func75 rfl Tryd.ntmps75 rfl (St.start w) ?_
  refine ct (decide_eq_true (by decide)) ?_
  exact rt rfl
set_option maxRecDepth 100000 in
theorem dec_any (s : Bs) (hl : s.length ≤ 100000) (w : World) (hw : Laid w) : Calls Tryd.prog 62 ([sj s] : List Value).toArray w fun e w' => e = .returned (decV s) ∧ Below w.heap.size w w' := by
  refine enterV tab_ok Tryd.func62 rfl Tryd.ntmps62 rfl (St.laid hw) ?_
  cases s with
  | nil =>
    iterate 3 refine cf (by simp) ?_
    refine cf (by simp) ?_
    refine cf rfl ?_
    refine cv (fun w => slow_nil w) ?_
    exact rt rfl
  | cons a r =>
    have ha := a.toNat_lt
    have f1 : (!((ByteArray.mk (a :: r).toArray).toList == (ByteArray.mk #[]).toList)) = true := by rw [ne0]; rfl
    have f2 : ((!((ByteArray.mk (a :: r).toArray).toList == (ByteArray.mk #[]).toList)) == true) = true := by rw [f1]; rfl
    refine ct f2 ?_
    refine ct f2 ?_
    refine chL 0 rfl rfl ?_
    refine ct f2 ?_
    refine ct f1 ?_
    refine cd (fun h => ?_) (fun h => ?_)
    · have hd : decP (a :: r) = some (a.toNat, 1) := if_pos (by omega)
      refine chL 0 rfl rfl ?_
      refine .same (by simp only [mn]; omega) (by simp only [mx]; omega) ?_
      refine rt ?_
      show _ = decR (decP (a :: r))
      rw [hd]; rfl
    · have hd : decP (a :: r) = decQ a.toNat r := if_neg (by omega)
      have hv : ∀ w, Laid w → _ := fun w hw => slow_any a r (by omega) hl w hw
      show _
      have he : decV (a :: r) = decR (decQ a.toNat r) := congrArg decR hd
      rw [he]
      cases hq : decQ a.toNat r with
      | none =>
        rw [hq] at hv
        refine cvs (fun w hs => hv w (hs.res (k := 0) rfl)) ?_
        exact rt rfl
      | some x =>
        obtain ⟨c, z⟩ := x
        rw [hq] at hv
        refine cvs (fun w hs => hv w (hs.res (k := 0) rfl)) ?_
        exact rt rfl
/-- a sign that bytes begin with: how large it is -/
theorem decP_in {s : Bs} {c z : Nat} (h : decP s = some (c, z)) : c < 2147483648 ∧ 1 ≤ z ∧ z ≤ s.length ∧ (z = 1 → c < 128) := by
  cases s with
  | nil => cases h
  | cons a r =>
    have ha := a.toNat_lt
    replace h : (if a.toNat < 128 then some (a.toNat, 1) else decQ a.toNat r) = some (c, z) := h
    split at h
    · injection h with h; injection h with h1 h2; subst h1 h2
      exact ⟨by omega, Nat.le_refl _, by simp, fun _ => by omega⟩
    · unfold decQ at h
      split at h
      · cases h
      · split at h
        · cases h
        · rename_i b1 r1
          have h1 := b1.toNat_lt
          split at h
          · cases h
          · split at h
            · injection h with h; injection h with h1 h2; subst h1 h2
              exact ⟨by omega, by decide, by simp, fun h => by cases h⟩
            · split at h
              · cases h
              · rename_i b2 r2
                have h2 := b2.toNat_lt
                split at h
                · cases h
                · split at h
                  · injection h with h; injection h with h1 h2; subst h1 h2
                    exact ⟨by omega, by decide, by simp, fun h => by cases h⟩
                  · split at h
                    · cases h
                    · rename_i b3 r3
                      have h3 := b3.toNat_lt
                      split at h
                      · cases h
                      · injection h with h; injection h with h1 h2; subst h1 h2
                        exact ⟨by omega, by decide, by simp, fun h => by cases h⟩
end Go.Proofs.YtpegkoklmhccjaaDoor
end
section
namespace Go.Proofs.YtpegkoklmhccjaaDoor
open Go.RowKit Go.Sx
set_option linter.unusedVariables false
theorem hexP_lt (k : Nat) : ∀ (n : Nat) (s : Bs) (m : Nat) (t : Bs), hexP k n s = some (m, t) → m < (n + 1) * 16 ^ k := by
  induction k with
  | zero => intro n s m t h; injection h with h; injection h with h1 h2; subst h1; simp
  | succ k ih =>
    intro n s m t h
    cases s with
    | nil => cases h
    | cons c s =>
      rw [hexP] at h
      cases hv : hexN c.toNat with
      | none => rw [hv] at h; cases h
      | some v =>
        rw [hv] at h
        have h1 := ih _ _ _ _ h
        have h2 := hexN_lt _ _ hv
        have h3 : (16 * n + v + 1) * 16 ^ k ≤ (16 * (n + 1)) * 16 ^ k := Nat.mul_le_mul_right _ (by omega)
        rw [Nat.pow_succ, Nat.mul_comm (16 ^ k) 16, ← Nat.mul_assoc, Nat.mul_comm (n + 1) 16]
        omega
theorem hex4_lt {s : Bs} {m : Nat} {t : Bs} (h : hexP 4 0 s = some (m, t)) : m < 65536 := by have := hexP_lt 4 0 s m t h; omega
/-- a sign by its figures, or two halves of one -/
def sigP (s : Bs) : Option (Nat × Bs) := match hexP 4 0 s with
  | none => none
  | some (n, t) => if n < 55296 ∨ 57344 ≤ n then some (n, t) else if 56320 ≤ n then none else match pre [92, 117] t with
    | none => none
    | some u => match hexP 4 0 u with
      | none => none
      | some (l, v) => if l < 56320 ∨ 57344 ≤ l then none else some (65536 + (n - 55296) * 1024 + l - 56320, v)
theorem pre_len (p : Bs) : ∀ s t, pre p s = some t → t.length ≤ s.length := by
  intro s t h
  rw [pre_eq] at h
  split at h
  · injection h with h; rw [← h]; simp
  · cases h
section
variable {b : Nat} {s : Bs} {d : Int} {w : World}
set_option maxRecDepth 100000 in
theorem sign_any (h : w.heap[b]? = some (.cells (rdC s false d) TRd (0, 0))) : Calls Tryd.prog 78 ([pj b] : List Value).toArray w fun e w' => ∃ x : RnO, RnF (sigP s) s false x ∧ e = .returned (.int .i32 x.n) ∧ Upd b (rdC x.t x.bad d) TRd w w' := by
  refine enterUx tab_ok Tryd.func78 rfl Tryd.ntmps78 rfl h ?_
  refine cU (Φ := RnF (hexP 4 0 s) s false) 0 rfl (fun w h => hex_any h) ?_
  rintro ⟨n, t, bd⟩ ⟨ht, hx⟩
  dsimp only at ht hx ⊢
  rcases hx with ⟨hx, rfl, rfl⟩ | ⟨hx, rfl⟩
  · have hs : sigP s = none := by unfold sigP; rw [hx]
    iterate 2 refine cf rfl ?_
    iterate 2 refine ct rfl ?_
    exact rtUx (Φ := RnF (sigP s) s false) (⟨0, t, true⟩ : RnO) ⟨ht, .inl ⟨hs, rfl, rfl⟩⟩ rfl
  · have hn := hex4_lt hx
    have hs1 : (n < 55296 ∨ 57344 ≤ n) → sigP s = some (n, t) := fun h => by unfold sigP; rw [hx]; exact if_pos h
    by_cases c1 : n < 55296
    · have f1 : decide ((n : Int) < 55296) = true := decide_eq_true (by omega)
      have f2 : (decide ((n : Int) < 55296) == false) = false := by rw [f1]; rfl
      iterate 2 refine cf f2 ?_
      refine ct f1 ?_
      refine ct rfl ?_
      exact rtUx (Φ := RnF (sigP s) s false) (⟨n, t, false⟩ : RnO) ⟨ht, .inr ⟨hs1 (.inl c1), rfl⟩⟩ rfl
    · have f1 : decide ((n : Int) < 55296) = false := decide_eq_false (by omega)
      have f2 : (decide ((n : Int) < 55296) == false) = true := by rw [f1]; rfl
      iterate 2 refine ct f2 ?_
      refine cf f1 ?_
      by_cases c2 : 57344 ≤ n
      · refine ct (decide_eq_true (by omega)) ?_
        exact rtUx (Φ := RnF (sigP s) s false) (⟨n, t, false⟩ : RnO) ⟨ht, .inr ⟨hs1 (.inr c2), rfl⟩⟩ rfl
      · refine cf (decide_eq_false (by omega)) ?_
        have hs2 : sigP s = if 56320 ≤ n then none else match pre [92, 117] t with
            | none => none
            | some u => match hexP 4 0 u with
              | none => none
              | some (l, v) => if l < 56320 ∨ 57344 ≤ l then none else some (65536 + (n - 55296) * 1024 + l - 56320, v) := by unfold sigP; rw [hx]; exact if_neg (by omega)
        by_cases c3 : 56320 ≤ n
        · refine ct (decide_eq_true (by omega)) ?_
          refine cU1 0 rfl (fun w h => fail_any h) ?_
          exact rtUx (Φ := RnF (sigP s) s false) (⟨0, t, true⟩ : RnO) ⟨ht, .inl ⟨by rw [hs2, if_pos c3], rfl, rfl⟩⟩ rfl
        · refine cf (decide_eq_false (by omega)) ?_
          rw [if_neg c3] at hs2
          cases hp : pre [92, 117] t with
          | none =>
            rw [hp] at hs2
            refine cU1 0 rfl (fun w h => must_no [92, 117] hp h) ?_
            refine cU (Φ := RnF (hexP 4 0 t) t true) 0 rfl (fun w h => hex_any h) ?_
            rintro ⟨l, u, bd⟩ ⟨hu, hy⟩
            obtain rfl : bd = true := by rcases hy with ⟨_, _, h⟩ | ⟨_, h⟩ <;> exact h
            refine ld1 0 rfl (v := .bool true) rfl ?_
            iterate 2 refine cf rfl ?_
            refine ct rfl ?_
            iterate 2 refine cf rfl ?_
            iterate 2 refine ct rfl ?_
            refine cU1 0 rfl (fun w h => fail_any h) ?_
            exact rtUx (Φ := RnF (sigP s) s false) (⟨0, u, true⟩ : RnO) ⟨Nat.le_trans hu ht, .inl ⟨hs2, rfl, rfl⟩⟩ rfl
          | some u =>
            rw [hp] at hs2
            have hul := pre_len _ _ _ hp
            refine cU1 0 rfl (fun w h => must_yes [92, 117] hp h) ?_
            refine cU (Φ := RnF (hexP 4 0 u) u false) 0 rfl (fun w h => hex_any h) ?_
            rintro ⟨l, v, bd⟩ ⟨hv, hy⟩
            dsimp only at hv hy ⊢
            rcases hy with ⟨hy, rfl, rfl⟩ | ⟨hy, rfl⟩
            · dsimp only at hs2
              rw [hy] at hs2
              refine ld1 0 rfl (v := .bool true) rfl ?_
              iterate 2 refine cf rfl ?_
              refine ct rfl ?_
              iterate 2 refine cf rfl ?_
              iterate 2 refine ct rfl ?_
              refine cU1 0 rfl (fun w h => fail_any h) ?_
              exact rtUx (Φ := RnF (sigP s) s false) (⟨0, v, true⟩ : RnO) ⟨Nat.le_trans hv (Nat.le_trans hul ht), .inl ⟨hs2, rfl, rfl⟩⟩ rfl
            · dsimp only at hs2
              rw [hy] at hs2
              dsimp only at hs2
              have hl := hex4_lt hy
              refine ld1 0 rfl (v := .bool false) rfl ?_
              iterate 2 refine ct rfl ?_
              refine cf rfl ?_
              by_cases c4 : l < 56320
              · have g1 : decide ((l : Int) < 56320) = true := decide_eq_true (by omega)
                have g2 : (decide ((l : Int) < 56320) == false) = false := by rw [g1]; rfl
                iterate 2 refine cf g2 ?_
                refine ct g1 ?_
                refine ct rfl ?_
                refine cU1 0 rfl (fun w h => fail_any h) ?_
                exact rtUx (Φ := RnF (sigP s) s false) (⟨0, v, true⟩ : RnO) ⟨Nat.le_trans hv (Nat.le_trans hul ht), .inl ⟨by rw [hs2, if_pos (.inl c4)], rfl, rfl⟩⟩ rfl
              · have g1 : decide ((l : Int) < 56320) = false := decide_eq_false (by omega)
                have g2 : (decide ((l : Int) < 56320) == false) = true := by rw [g1]; rfl
                iterate 2 refine ct g2 ?_
                refine cf g1 ?_
                by_cases c5 : 57344 ≤ l
                · refine ct (decide_eq_true (by omega)) ?_
                  refine cU1 0 rfl (fun w h => fail_any h) ?_
                  exact rtUx (Φ := RnF (sigP s) s false) (⟨0, v, true⟩ : RnO) ⟨Nat.le_trans hv (Nat.le_trans hul ht), .inl ⟨by rw [hs2, if_pos (.inr c5)], rfl, rfl⟩⟩ rfl
                · refine cf (decide_eq_false (by omega)) ?_
                  refine .as ((n - 55296 : Nat) : Int) (by omega) (by simp only [mn]; omega) (by simp only [mx]; omega) ?_
                  refine ⟨by decide, .as (((n - 55296) * 1024 : Nat) : Int) (by show ((n - 55296 : Nat) : Int) * 2 ^ 10 = _; omega) (by simp only [mn]; omega) (by simp only [mx]; omega) ?_⟩
                  refine .as ((65536 + (n - 55296) * 1024 : Nat) : Int) (by omega) (by simp only [mn]; omega) (by simp only [mx]; omega) ?_
                  refine .as ((65536 + (n - 55296) * 1024 + l : Nat) : Int) (by omega) (by simp only [mn]; omega) (by simp only [mx]; omega) ?_
                  refine .as ((65536 + (n - 55296) * 1024 + l - 56320 : Nat) : Int) (by omega) (by simp only [mn]; omega) (by simp only [mx]; omega) ?_
                  exact rtUx (Φ := RnF (sigP s) s false) (⟨65536 + (n - 55296) * 1024 + l - 56320, v, false⟩ : RnO) ⟨Nat.le_trans hv (Nat.le_trans hul ht), .inr ⟨by rw [hs2, if_neg (by omega)], rfl⟩⟩ rfl
end
end Go.Proofs.YtpegkoklmhccjaaDoor
end
section
namespace Go.Proofs.YtpegkoklmhccjaaDoor
open Go.RowKit Go.Sx
set_option linter.unusedVariables false
theorem ceq (c k : UInt8) (z : Int) (hz : z = k.toNat) : ((c.toNat : Int) == z) = decide (c = k) := by
  subst hz
  by_cases h : c = k
  · subst h; simp
  · rw [decide_eq_false h, beq_eq_false_iff_ne]
    intro h2; exact h (UInt8.toNat_inj.1 (by omega))
theorem ceT {c : UInt8} (k : UInt8) {z : Int} (hz : z = k.toNat) (h : c = k) : ((c.toNat : Int) == z) = true := by rw [ceq c k z hz]; exact decide_eq_true h
theorem ceF {c : UInt8} (k : UInt8) {z : Int} (hz : z = k.toNat) (h : ¬ c = k) : ((c.toNat : Int) == z) = false := by rw [ceq c k z hz]; exact decide_eq_false h
def escQ (c : UInt8) (t : Bs) : Option (Nat × Bs) :=
  if c = 34 then some (34, t) else if c = 92 then some (92, t) else if c = 47 then some (47, t) else if c = 98 then some (8, t) else if c = 102 then some (12, t) else if c = 110 then some (10, t) else if c = 114 then some (13, t) else if c = 116 then some (9, t) else if c = 117 then sigP t else none
/-- what stands behind a backslash -/
def escP : Bs → Option (Nat × Bs)
  | [] => none
  | c :: t => escQ c t
section
variable {b : Nat} {s : Bs} {d : Int} {w : World}
set_option maxRecDepth 100000 in
theorem escape_any (h : w.heap[b]? = some (.cells (rdC s false d) TRd (0, 0))) : Calls Tryd.prog 65 ([pj b] : List Value).toArray w fun e w' => ∃ x : RnO, RnF (escP s) s false x ∧ e = .returned (.int .i32 x.n) ∧ Upd b (rdC x.t x.bad d) TRd w w' := by
  refine enterUx tab_ok Tryd.func65 rfl Tryd.ntmps65 rfl h ?_
  refine ld1 0 rfl (v := sj s) rfl ?_
  cases s with
  | nil =>
    refine ct (by simp) ?_
    refine cU1 0 rfl (fun w h => fail_any h) ?_
    exact rtUx (Φ := RnF (escP []) [] false) (⟨0, [], true⟩ : RnO) ⟨Nat.le_refl _, .inl ⟨rfl, rfl, rfl⟩⟩ rfl
  | cons c t =>
    have hc := c.toNat_lt
    refine cf (ne0 c t) ?_
    refine ld1 0 rfl (v := sj (c :: t)) rfl ?_
    refine chL 0 rfl rfl ?_
    refine ld1 0 rfl (v := sj (c :: t)) rfl ?_
    refine slL 1 (by simp) rfl ?_
    refine s1 0 rfl (by show 0 < 3; decide) ?_
    by_cases c34 : c = 34
    · refine ct (ceT 34 rfl c34) ?_
      refine ct (ceT 34 rfl c34) ?_
      refine .same (by simp only [mn]; omega) (by simp only [mx]; omega) ?_
      rw [show c.toNat = 34 by rw [c34]; rfl]
      exact rtUx (Φ := RnF (escP (c :: t)) (c :: t) false) (⟨34, t, false⟩ : RnO) ⟨by simp, .inr ⟨by show escQ c t = _; unfold escQ; rw [if_pos c34], rfl⟩⟩ rfl
    · refine cf (ceF 34 rfl c34) ?_
      by_cases c92 : c = 92
      · refine ct (ceT 92 rfl c92) ?_
        refine ct (ceT 92 rfl c92) ?_
        refine .same (by simp only [mn]; omega) (by simp only [mx]; omega) ?_
        rw [show c.toNat = 92 by rw [c92]; rfl]
        exact rtUx (Φ := RnF (escP (c :: t)) (c :: t) false) (⟨92, t, false⟩ : RnO) ⟨by simp, .inr ⟨by show escQ c t = _; unfold escQ; rw [if_neg c34, if_pos c92], rfl⟩⟩ rfl
      · refine cf (ceF 92 rfl c92) ?_
        by_cases c47 : c = 47
        · refine ct (ceT 47 rfl c47) ?_
          refine .same (by simp only [mn]; omega) (by simp only [mx]; omega) ?_
          rw [show c.toNat = 47 by rw [c47]; rfl]
          exact rtUx (Φ := RnF (escP (c :: t)) (c :: t) false) (⟨47, t, false⟩ : RnO) ⟨by simp, .inr ⟨by show escQ c t = _; unfold escQ; rw [if_neg c34, if_neg c92, if_pos c47], rfl⟩⟩ rfl
        · refine cf (ceF 47 rfl c47) ?_
          by_cases c98 : c = 98
          · refine ct (ceT 98 rfl c98) ?_
            exact rtUx (Φ := RnF (escP (c :: t)) (c :: t) false) (⟨8, t, false⟩ : RnO) ⟨by simp, .inr ⟨by show escQ c t = _; unfold escQ; rw [if_neg c34, if_neg c92, if_neg c47, if_pos c98], rfl⟩⟩ rfl
          · refine cf (ceF 98 rfl c98) ?_
            by_cases c102 : c = 102
            · refine ct (ceT 102 rfl c102) ?_
              exact rtUx (Φ := RnF (escP (c :: t)) (c :: t) false) (⟨12, t, false⟩ : RnO) ⟨by simp, .inr ⟨by show escQ c t = _; unfold escQ; rw [if_neg c34, if_neg c92, if_neg c47, if_neg c98, if_pos c102], rfl⟩⟩ rfl
            · refine cf (ceF 102 rfl c102) ?_
              by_cases c110 : c = 110
              · refine ct (ceT 110 rfl c110) ?_
                exact rtUx (Φ := RnF (escP (c :: t)) (c :: t) false) (⟨10, t, false⟩ : RnO) ⟨by simp, .inr ⟨by show escQ c t = _; unfold escQ; rw [if_neg c34, if_neg c92, if_neg c47, if_neg c98, if_neg c102, if_pos c110], rfl⟩⟩ rfl
              · refine cf (ceF 110 rfl c110) ?_
                by_cases c114 : c = 114
                · refine ct (ceT 114 rfl c114) ?_
                  exact rtUx (Φ := RnF (escP (c :: t)) (c :: t) false) (⟨13, t, false⟩ : RnO) ⟨by simp, .inr ⟨by show escQ c t = _; unfold escQ; rw [if_neg c34, if_neg c92, if_neg c47, if_neg c98, if_neg c102, if_neg c110, if_pos c114], rfl⟩⟩ rfl
                · refine cf (ceF 114 rfl c114) ?_
                  by_cases c116 : c = 116
                  · refine ct (ceT 116 rfl c116) ?_
                    exact rtUx (Φ := RnF (escP (c :: t)) (c :: t) false) (⟨9, t, false⟩ : RnO) ⟨by simp, .inr ⟨by show escQ c t = _; unfold escQ; rw [if_neg c34, if_neg c92, if_neg c47, if_neg c98, if_neg c102, if_neg c110, if_neg c114, if_pos c116], rfl⟩⟩ rfl
                  · refine cf (ceF 116 rfl c116) ?_
                    by_cases c117 : c = 117
                    · refine ct (ceT 117 rfl c117) ?_
                      have he : escP (c :: t) = sigP t := by show escQ c t = _; unfold escQ; rw [if_neg c34, if_neg c92, if_neg c47, if_neg c98, if_neg c102, if_neg c110, if_neg c114, if_neg c116, if_pos c117]
                      refine cU (Φ := RnF (sigP t) t false) 0 rfl (fun w h => sign_any h) ?_
                      rintro ⟨l, u, bd⟩ ⟨hu, hy⟩
                      exact rtUx (Φ := RnF (escP (c :: t)) (c :: t) false) (⟨l, u, bd⟩ : RnO) ⟨by simp; dsimp only at hu; omega, by rw [he]; exact hy⟩ rfl
                    · refine cf (ceF 117 rfl c117) ?_
                      refine cU1 0 rfl (fun w h => fail_any h) ?_
                      exact rtUx (Φ := RnF (escP (c :: t)) (c :: t) false) (⟨0, t, true⟩ : RnO) ⟨by simp, .inl ⟨by show escQ c t = _; unfold escQ; rw [if_neg c34, if_neg c92, if_neg c47, if_neg c98, if_neg c102, if_neg c110, if_neg c114, if_neg c116, if_neg c117], rfl, rfl⟩⟩ rfl
end
end Go.Proofs.YtpegkoklmhccjaaDoor
end
section
namespace Go.Proofs.YtpegkoklmhccjaaDoor
open Go.RowKit Go.Sx
set_option linter.unusedVariables false
theorem sigP_lt {s : Bs} {n : Nat} {t : Bs} (h : sigP s = some (n, t)) : n < 2147483648 := by
  unfold sigP at h
  split at h
  · cases h
  · rename_i m u hm
    have h4 := hex4_lt hm
    split at h
    · injection h with h; injection h with h1 h2; omega
    · split at h
      · cases h
      · split at h
        · cases h
        · split at h
          · cases h
          · rename_i l v hl
            have h5 := hex4_lt hl
            split at h
            · cases h
            · injection h with h; injection h with h1 h2; omega
theorem escP_lt {s : Bs} {n : Nat} {t : Bs} (h : escP s = some (n, t)) : n < 2147483648 := by
  cases s with
  | nil => cases h
  | cons c u =>
    replace h : escQ c u = some (n, t) := h
    unfold escQ at h
    repeat' split at h
    all_goals first
      | exact sigP_lt h
      | cases h; done
      | (injection h with h; injection h with h1 h2; omega)
def app (l : Bs) (o : Option (Bs × Bs)) : Option (Bs × Bs) := o.map fun p => (l ++ p.1, p.2)
theorem app_app (a b : Bs) (o : Option (Bs × Bs)) : app a (app b o) = app (a ++ b) o := by cases o <;> simp [app]
/-- what stands behind a text's first sign -/
def txtF : Nat → Bs → Option (Bs × Bs)
  | 0, _ => none
  | n + 1, s => match decP s with
    | none => none
    | some (c, z) => if c < 32 then none else if c = 34 then some ([], s.drop z) else if c = 92 then (match escP (s.drop z) with
      | none => none
      | some (e, t) => app (encP e) (txtF n t)) else app (encP c) (txtF n (s.drop z))
def textP (s : Bs) : Option (Bs × Bs) := match pre [34] s with
  | none => none
  | some t => txtF (t.length + 1) t
structure TxO where
  l : Bs
  t : Bs
  bad : Bool
def TxF (o : Option (Bs × Bs)) (s : Bs) (x : TxO) : Prop := x.t.length ≤ s.length ∧ ((o = none ∧ x.l = [] ∧ x.bad = true) ∨ (o = some (x.l, x.t) ∧ x.bad = false))
structure TxI where
  n : Nat
  l : Bs
  r : Sx.Own
  p : Value
  t : Bs
  bad : Bool
structure TxJ (s : Bs) (b3 : Nat) (x : TxI) : Prop where
  tl : x.t.length ≤ s.length
  ll : x.l.length + 4 * x.t.length ≤ 4 * s.length
  n : x.t.length < x.n
  R : Rw 1 x.l.length x.r (Lib.byteCells x.l)
  r0 : x.l = [] → x.r = none
  p : x.p = .pointer none ∨ x.p = ptr b3
  ok : (x.bad = true ∧ textP s = none) ∨ (x.bad = false ∧ textP s = app x.l (txtF x.n x.t))
theorem encP_ne (c : Nat) : encP c ≠ [] := fun h => by have := (encP_len c).1; rw [h] at this; exact absurd this (by decide)
section
variable {C : Cx} {L : List Ent}
theorem cUs (k : Nat) {g : FuncId} {vs : List Value} {α : Type} {Φ : α → Prop} {v : α → Value} {b : Nat} {c0 : Array Value} {c : α → Array Value} {t : TypeId} {next : Value → List Ent → Prop} (hk : L[k]? = some (cl b c0 t))
    (h : ∀ w, St C.M C.B w L → Calls C.P g vs.toArray w fun e w' => ∃ x, Φ x ∧ e = .returned (v x) ∧ Upd b (c x) t w w') (go : ∀ x, Φ x → next (v x) (L.set k (cl b (c x) t))) : CallP C g vs L next :=
  ⟨fun w hs => (h w hs).mono fun e w' ⟨x, hx, he, hu⟩ => ⟨_, _, he, hs.set hk hu.size hu.ok hu.old hu.os hu.tape hu.output, go x hx⟩⟩
theorem enterUs {P : Program} {T : Tab} (hT : TabOk P T) {g : FuncId} {fn : Func} {cd : Code} (hf : P.funcs[g]? = some fn) (hb : fn.body = some cd) {N : Nat} (hN : fn.ntmps = N) {vs : List Value} (hle : Nat.ble vs.length N = true) {w : World} {b : Nat} {α : Type} {Φ : α → Prop} {c : α → Array Value} {t : TypeId} {v : α → Value} {L : List Ent}
    (hw : St [bl b] w w L) (h : cx ⟨P, T, N, [bl b], w, none⟩ cd (retK ⟨P, T, N, [bl b], w, none⟩ fn fun u w' => ∃ x, Φ x ∧ u = v x ∧ Upd b (c x) t w w') ⟨par 0 vs, L, []⟩) : Calls P g vs.toArray w fun e w' => ∃ x, Φ x ∧ e = .returned (v x) ∧ Upd b (c x) t w w' :=
  (enter hT hf hb hN hle hw h).mono fun e w' ⟨u, he, x, hx, hu, h2⟩ => ⟨x, hx, by rw [he, hu], h2⟩
end
theorem Laid.ne {w : World} (h : Laid w) {b : Nat} {s : Bs} {bad : Bool} {d : Int} (hb : w.heap[b]? = some (.cells (rdC s bad d) TRd (0, 0))) : b ≠ 0 ∧ b ≠ 1 := by
  constructor
  · rintro rfl
    have := h.f 0 (by decide)
    simp [World.cell?, hb] at this
  · rintro rfl
    have := h.a 0 (by decide)
    simp [World.cell?, hb] at this
theorem St.rdL {w : World} {b : Nat} {s : Bs} {bad : Bool} {d : Int} (hb : w.heap[b]? = some (.cells (rdC s bad d) TRd (0, 0))) (h : Laid w) : St [bl b] w w [cl b (rdC s bad d) TRd, rs laidR] := by
  refine St.from w _ _ (fun e he => ?_) ?_
  · simp at he
    rcases he with rfl | rfl
    · exact ⟨by simpa using hb, fun k hk => by simp at hk; simp [hk]⟩
    · exact ⟨(rsOk laidR w).2 h, fun k hk => ((rsW laidR k).1 hk).elim⟩
  · have := h.ne hb
    refine .cons (fun e he => ?_) (.cons (by simp) .nil)
    obtain rfl : e = rs laidR := by simpa using he
    refine fun k => ⟨fun h1 h2 => ?_, fun h1 => ((rsW laidR k).1 h1).elim⟩
    simp at h1
    subst h1
    rcases (rsA laidR _).1 h2 with h2 | h2 | h2
    · exact h2
    · exact this.1 h2
    · exact this.2 h2
def txL (b : Nat) (d : Int) (b3 : Nat) (x : TxI) : List Ent := [cl b (rdC x.t x.bad d) TRd, rs laidR, cl b3 #[x.p, sv x.r x.l.length] TB, se x.r (Lib.byteCells x.l) 5]
section
variable {b : Nat} {s : Bs} {d : Int} {w : World}
set_option maxRecDepth 100000 in
theorem text_any (hl : s.length ≤ 100000) (h : w.heap[b]? = some (.cells (rdC s false d) TRd (0, 0))) (hw : Laid w) : Calls Tryd.prog 49 ([pj b] : List Value).toArray w fun e w' => ∃ x : TxO, TxF (textP s) s x ∧ e = .returned (sj x.l) ∧ Upd b (rdC x.t x.bad d) TRd w w' := by
  refine enterUs tab_ok Tryd.func49 rfl Tryd.ntmps49 rfl (St.rdL h hw) ?_
  obtain ⟨sA, bd, hc, hJ0⟩ : ∃ sA bd, (∀ w : World, w.heap[b]? = some (.cells (rdC s false d) TRd (0, 0)) → Calls Tryd.prog 45 ([pj b, sj [34]] : List Value).toArray w fun e w' => e = .returned (.tuple #[]) ∧ Upd b (rdC sA bd d) TRd w w') ∧ ∀ b3, TxJ s b3 ⟨sA.length + 1, [], none, .pointer none, sA, bd⟩ := by
    cases hp : pre [34] s with
    | none =>
      have hq0 : textP s = none := by unfold textP; rw [hp]
      exact ⟨s, true, fun w h => must_no [34] hp h, fun b3 => ⟨Nat.le_refl _, by simp, by simp, Rw.nil 1, fun _ => rfl, .inl rfl, .inl ⟨rfl, hq0⟩⟩⟩
    | some t =>
      have hq : textP s = txtF (t.length + 1) t := by unfold textP; rw [hp]
      have hle := pre_len _ _ _ hp
      exact ⟨t, false, fun w h => must_yes [34] hp h, fun b3 => ⟨hle, by simp; omega, by simp, Rw.nil 1, fun _ => rfl, .inl rfl, .inr ⟨rfl, by rw [hq]; cases txtF (t.length + 1) t <;> simp [app]⟩⟩⟩
  refine cU1 0 rfl hc ?_
  intro b3
  refine lp tab_ok (TxJ s b3) (fun x => ⟨[(0, pj b), (3, ptr b3)], txL b d b3 x, []⟩) (fun x => cond x.bad 0 (x.n + 1)) _ (hJ0 b3) ⟨⟨rfl, rfl, trivial⟩, .cons (.cons (.cons (.pad .nil))), rfl⟩ ?_
  rintro ⟨n, l, r, p, t, bad⟩ ⟨htl, hll, hn, hR, hr0, hp, hok⟩
  dsimp only at htl hll hn hR hr0 hp hok ⊢
  refine ld1 0 rfl (v := .bool bad) rfl ?_
  rcases hok with ⟨rfl, hq⟩ | ⟨rfl, hq⟩
  · refine cf rfl ?_
    exact rtUx (Φ := TxF (textP s) s) (⟨[], t, true⟩ : TxO) ⟨htl, .inl ⟨hq, rfl, rfl⟩⟩ rfl
  · refine ct rfl ?_
    refine ld1 0 rfl (v := sj t) rfl ?_
    cases hd : decP t with
    | none =>
      have hn1 : txtF n t = none := by
        cases n with
        | zero => exact absurd hn (Nat.not_lt_zero _)
        | succ m => rw [txtF, hd]
      have hq0 : textP s = none := by rw [hq, hn1]; rfl
      cases t with
      | nil =>
        refine cvs (fun w hs => dec_any [] (by omega) w (hs.res (k := 1) rfl)) ?_
        refine ld1 0 rfl (v := sj []) rfl ?_
        refine slL 0 (by simp) rfl ?_
        refine s1 0 rfl (by show 0 < 3; decide) ?_
        iterate 2 refine cf rfl ?_
        refine ct rfl ?_
        iterate 4 refine cf rfl ?_
        iterate 2 refine ct rfl ?_
        refine cU1 0 rfl (fun w h => fail_any h) ?_
        exact ⟨⟨n, l, r, p, [], true⟩, ⟨Nat.zero_le _, by simp; simp at hll; omega, by simpa using hn, hR, hr0, hp, .inl ⟨rfl, hq0⟩⟩, by dsimp only [cond]; omega, ⟨rfl, rfl, trivial⟩, .cons (.cons (.cons (.cons .nil))), rfl⟩
      | cons a u =>
        have hv : ∀ w, Laid w → _ := fun w hw => dec_any (a :: u) (by omega) w hw
        rw [show decV (a :: u) = decR none from congrArg decR hd] at hv
        refine cvs (fun w hs => hv w (hs.res (k := 1) rfl)) ?_
        refine ld1 0 rfl (v := sj (a :: u)) rfl ?_
        refine slL 1 (by simp) rfl ?_
        refine s1 0 rfl (by show 0 < 3; decide) ?_
        iterate 2 refine ct rfl ?_
        refine cf rfl ?_
        iterate 6 refine ct rfl ?_
        refine ct rfl ?_
        refine cf rfl ?_
        refine ct rfl ?_
        refine cU1 0 rfl (fun w h => fail_any h) ?_
        exact ⟨⟨n, l, r, p, u, true⟩, ⟨by simp at htl ⊢; omega, by simp at hll ⊢; omega, by simp at hn ⊢; omega, hR, hr0, hp, .inl ⟨rfl, hq0⟩⟩, by dsimp only [cond]; omega, ⟨rfl, rfl, trivial⟩, .cons (.cons (.cons (.cons .nil))), rfl⟩
    | some x =>
      obtain ⟨c, z⟩ := x
      obtain ⟨hc, hz1, hz2, hz3⟩ := decP_in hd
      have hv : ∀ w, Laid w → _ := fun w hw => dec_any t (by omega) w hw
      rw [show decV t = decR (some (c, z)) from by cases t with | nil => cases hd | cons a u => exact congrArg decR hd] at hv
      refine cvs (fun w hs => hv w (hs.res (k := 1) rfl)) ?_
      refine ld1 0 rfl (v := sj t) rfl ?_
      refine slL z hz2 rfl ?_
      refine s1 0 rfl (by show 0 < 3; decide) ?_
      obtain ⟨n, rfl⟩ : ∃ m, n = m + 1 := ⟨n - 1, by omega⟩
      have hT : txtF (n + 1) t = if c < 32 then none else if c = 34 then some ([], t.drop z) else if c = 92 then (match escP (t.drop z) with | none => none | some (e, t) => app (encP e) (txtF n t)) else app (encP c) (txtF n (t.drop z)) := by rw [txtF, hd]
      have z1 : ((z : Int) == 0) = false := by rw [beq_eq_false_iff_ne]; omega
      have z2 : (((z : Int) == 0) == false) = true := by rw [z1]; rfl
      iterate 2 refine ct z2 ?_
      refine cf z1 ?_
      by_cases c32 : c < 32
      · have d1 : decide ((c : Int) < 32) = true := decide_eq_true (by omega)
        have d2 : (decide ((c : Int) < 32) == false) = false := by rw [d1]; rfl
        iterate 4 refine cf d2 ?_
        refine ct d1 ?_
        refine ct rfl ?_
        have hq0 : textP s = none := by rw [hq, hT, if_pos c32]; rfl
        refine cU1 0 rfl (fun w h => fail_any h) ?_
        exact ⟨⟨n + 1, l, r, p, t.drop z, true⟩, ⟨by simp; omega, by simp; omega, by simp; omega, hR, hr0, hp, .inl ⟨rfl, hq0⟩⟩, by dsimp only [cond]; omega, ⟨rfl, rfl, trivial⟩, .cons (.cons (.cons (.cons .nil))), rfl⟩
      · have d1 : decide ((c : Int) < 32) = false := decide_eq_false (by omega)
        have d2 : (decide ((c : Int) < 32) == false) = true := by rw [d1]; rfl
        rw [if_neg c32] at hT
        iterate 3 refine ct d2 ?_
        have hll9 : l.length ≤ 1000000000 := by omega
        have hd1 : (t.drop z).length + 1 ≤ t.length := by simp; omega
        by_cases c653 : c = 65533
        · have e1 : ((c : Int) == 65533) = true := by rw [beq_iff_eq]; omega
          have e2 : (((c : Int) == 65533) == true) = true := by rw [e1]; rfl
          have c34 : ¬ c = 34 := by omega
          have c92 : ¬ c = 92 := by omega
          iterate 2 refine ct e2 ?_
          refine ct d2 ?_
          refine ct e1 ?_
          refine cf d1 ?_
          refine cf (by rw [beq_eq_false_iff_ne]; intro h; have := hz3 (by omega); omega) ?_
          refine cf (by rw [beq_eq_false_iff_ne]; omega) ?_
          refine cf (by rw [beq_eq_false_iff_ne]; omega) ?_
          refine bRune 2 3 rfl hp rfl (by decide) hR hll9 hc (fun v r' m hm hR' => ?_)
          subst hm
          refine ⟨⟨n, l ++ encP c, r', ptr b3, t.drop z, false⟩, ⟨by have := hd1; dsimp only; omega, by have := (encP_len c).2; have := hd1; simp only [List.length_append]; omega, by have := hd1; dsimp only; omega, by simpa only [List.length_append, Lib.byteCells_append] using hR', fun h => absurd (List.append_eq_nil_iff.1 h).2 (encP_ne _), .inr rfl, .inr ⟨rfl, by rw [hq, hT, if_neg c34, if_neg c92, app_app]⟩⟩, by dsimp only [cond]; omega, ⟨rfl, rfl, trivial⟩, ?_, rfl⟩
          simp only [txL, List.length_append, Lib.byteCells_append]
          exact .cons (.cons (.cons (.cons .nil)))
        · have e1 : ((c : Int) == 65533) = false := by rw [beq_eq_false_iff_ne]; omega
          have e2 : (((c : Int) == 65533) == true) = false := by rw [e1]; rfl
          iterate 2 refine cf e2 ?_
          refine ct d2 ?_
          refine cf e1 ?_
          refine cf d1 ?_
          refine cf rfl ?_
          by_cases c34 : c = 34
          · refine ct (by rw [beq_iff_eq]; omega) ?_
            have hq0 : textP s = some (l, t.drop z) := by rw [hq, hT, if_pos c34]; simp [app]
            by_cases hnil : l = []
            · have := hr0 hnil
              subst this hnil
              refine bStr0 2 (b := b3) (p := p) (a := none) (c := 0) rfl (.inl rfl) ?_
              exact rtUx (Φ := TxF (textP s) s) (⟨[], t.drop z, false⟩ : TxO) ⟨by dsimp only; omega, .inr ⟨hq0, rfl⟩⟩ rfl
            · refine bStr 2 3 rfl rfl (by decide) hR hnil ?_
              exact rtUx (Φ := TxF (textP s) s) (⟨l, t.drop z, false⟩ : TxO) ⟨by dsimp only; omega, .inr ⟨hq0, rfl⟩⟩ rfl
          · refine cf (by rw [beq_eq_false_iff_ne]; omega) ?_
            rw [if_neg c34] at hT
            by_cases c92 : c = 92
            · refine ct (by rw [beq_iff_eq]; omega) ?_
              rw [if_pos c92] at hT
              refine cU (Φ := RnF (escP (t.drop z)) (t.drop z) false) 0 rfl (fun w h => escape_any h) ?_
              rintro ⟨e, u, bd⟩ ⟨hu, he⟩
              dsimp only at hu he ⊢
              have hu2 : u.length + 1 ≤ t.length := by omega
              rcases he with ⟨he, rfl, rfl⟩ | ⟨he, rfl⟩
              · rw [he] at hT
                refine bRune 2 3 rfl hp rfl (by decide) hR hll9 (by decide) (fun v r' m hm hR' => ?_)
                subst hm
                refine ⟨⟨n, l ++ encP 0, r', ptr b3, u, true⟩, ⟨by have := hu2; dsimp only; omega, by have := (encP_len 0).2; have := hu2; simp only [List.length_append]; omega, by have := hu2; dsimp only; omega, by simpa only [List.length_append, Lib.byteCells_append] using hR', fun h => absurd (List.append_eq_nil_iff.1 h).2 (encP_ne _), .inr rfl, .inl ⟨rfl, by rw [hq, hT]; rfl⟩⟩, by dsimp only [cond]; omega, ⟨rfl, rfl, trivial⟩, ?_, rfl⟩
                simp only [txL, List.length_append, Lib.byteCells_append]
                exact .cons (.cons (.cons (.cons .nil)))
              · rw [he] at hT
                refine bRune 2 3 rfl hp rfl (by decide) hR hll9 (escP_lt he) (fun v r' m hm hR' => ?_)
                subst hm
                refine ⟨⟨n, l ++ encP e, r', ptr b3, u, false⟩, ⟨by have := hu2; dsimp only; omega, by have := (encP_len e).2; have := hu2; simp only [List.length_append]; omega, by have := hu2; dsimp only; omega, by simpa only [List.length_append, Lib.byteCells_append] using hR', fun h => absurd (List.append_eq_nil_iff.1 h).2 (encP_ne _), .inr rfl, .inr ⟨rfl, by rw [hq, hT, app_app]⟩⟩, by dsimp only [cond]; omega, ⟨rfl, rfl, trivial⟩, ?_, rfl⟩
                simp only [txL, List.length_append, Lib.byteCells_append]
                exact .cons (.cons (.cons (.cons .nil)))
            · refine cf (by rw [beq_eq_false_iff_ne]; omega) ?_
              rw [if_neg c92] at hT
              refine bRune 2 3 rfl hp rfl (by decide) hR hll9 hc (fun v r' m hm hR' => ?_)
              subst hm
              refine ⟨⟨n, l ++ encP c, r', ptr b3, t.drop z, false⟩, ⟨by have := hd1; dsimp only; omega, by have := (encP_len c).2; have := hd1; simp only [List.length_append]; omega, by have := hd1; dsimp only; omega, by simpa only [List.length_append, Lib.byteCells_append] using hR', fun h => absurd (List.append_eq_nil_iff.1 h).2 (encP_ne _), .inr rfl, .inr ⟨rfl, by rw [hq, hT, app_app]⟩⟩, by dsimp only [cond]; omega, ⟨rfl, rfl, trivial⟩, ?_, rfl⟩
              simp only [txL, List.length_append, Lib.byteCells_append]
              exact .cons (.cons (.cons (.cons .nil)))
end
end Go.Proofs.YtpegkoklmhccjaaDoor
end
section
namespace Go.Proofs.YtpegkoklmhccjaaDoor
open Go.RowKit Go.Sx
set_option linter.unusedVariables false
/-- a value: kind, number, text, list, pairs -/
inductive JV where
  | mk (k i : Int) (s : Bs) (l : List JV) (p : List (Bs × JV))
abbrev vcl (k i : Int) (s : Bs) (vl vp : Value) : List Value := [.int .i64 k, .int .i64 i, sj s, vl, vp]
/-- n things of z cells lie where a slice says -/
def RowAt (w : World) (A : Nat → Prop) (z n : Nat) (c : Nat → List Value) (v : Value) : Prop :=
  n ≤ maxLen ∧ ∃ a cap, v = .slice a n cap ∧ (n ≠ 0 → ∃ b o, a = some ⟨b, o, none⟩ ∧ A b ∧ ∀ i, i < n → (c i).length = z ∧ w.rangeAt b (o + i * z) (c i))
def pcl (p : List (Bs × JV)) (c : Nat → List Value) (n : Nat) : List Value := sj ((p[n]?.map (·.1)).getD []) :: c n
inductive Rv (w : World) (A : Nat → Prop) : JV → List Value → Prop
  | mk {k i : Int} {s : Bs} {l : List JV} {p : List (Bs × JV)} {vl vp : Value} (c e : Nat → List Value) (hl : RowAt w A 5 l.length c vl) (hp : RowAt w A 6 p.length (pcl p e) vp)
      (kl : ∀ n j, l[n]? = some j → Rv w A j (c n)) (kp : ∀ n q, p[n]? = some q → Rv w A q.2 (e n)) : Rv w A (.mk k i s l p) (vcl k i s vl vp)
theorem RowAt.to {w w' : World} {A A' : Nat → Prop} {z n : Nat} {c : Nat → List Value} {v : Value} (h : RowAt w A z n c v) (ha : ∀ k, A k → A' k) (hw : ∀ k, A k → w'.heap[k]? = w.heap[k]?) : RowAt w' A' z n c v := by
  obtain ⟨hn, a, cap, hv, h⟩ := h
  refine ⟨hn, a, cap, hv, fun h0 => ?_⟩
  obtain ⟨b, o, e, hA, hr⟩ := h h0
  refine ⟨b, o, e, ha b hA, fun i hi => ⟨(hr i hi).1, fun j u hu => ?_⟩⟩
  rw [← (hr i hi).2 j u hu]
  simp only [World.cell?, hw b hA]
theorem Rv.to {w w' : World} {A A' : Nat → Prop} {j : JV} {cs : List Value} (h : Rv w A j cs) (ha : ∀ k, A k → A' k) (hw : ∀ k, A k → w'.heap[k]? = w.heap[k]?) : Rv w' A' j cs := by
  induction h with
  | mk c e hl hp kl kp ihl ihp => exact .mk c e (hl.to ha hw) (hp.to ha hw) ihl ihp
theorem RowAt.one {w : World} {A : Nat → Prop} {z n : Nat} {c : Nat → List Value} {v : Value} (h : RowAt w A z n c v) : v.oneCell' = true := by
  obtain ⟨_, a, cap, rfl, _⟩ := h; rfl
theorem Rv.len {w : World} {A : Nat → Prop} {j : JV} {cs : List Value} (h : Rv w A j cs) : cs.length = 5 := by cases h; rfl
theorem Rv.one {w : World} {A : Nat → Prop} {j : JV} {cs : List Value} (h : Rv w A j cs) : cs.all (·.oneCell') = true := by
  cases h with
  | mk c e hl hp kl kp =>
    obtain ⟨_, a, cap, rfl, _⟩ := hl
    obtain ⟨_, a, cap, rfl, _⟩ := hp
    rfl
theorem RowAt.nil (w : World) (A : Nat → Prop) (z : Nat) (c : Nat → List Value) (a : Option Addr) (cap : Nat) : RowAt w A z 0 c (.slice a 0 cap) := ⟨by decide, a, cap, rfl, fun h => absurd rfl h⟩
/-- a value without parts -/
theorem Rv.leaf (w : World) (A : Nat → Prop) (k i : Int) (s : Bs) : Rv w A (.mk k i s [] []) (vcl k i s (.slice none 0 0) (.slice none 0 0)) :=
  .mk (fun _ => []) (fun _ => []) (.nil ..) (.nil ..) (fun n j h => by simp at h) (fun n j h => by simp at h)
def Held (w : World) (A : Nat → Prop) (ks : List (JV × List Value)) : Prop := (∀ k, A k → k < w.heap.size) ∧ ∀ x ∈ ks, Rv w A x.1 x.2
/-- values that lie in blocks of one's own -/
def heldR (A : Nat → Prop) (ks : List (JV × List Value)) : Res where
  w := A
  r := fun _ => False
  p := fun w => Held w A ks
  st := fun u v h hp => ⟨fun k hk => by
      have e := h k (.inl hk)
      rw [Array.getElem?_eq_getElem (hp.1 k hk)] at e
      exact (Array.getElem?_eq_some_iff.1 e).1, fun x hx => (hp.2 x hx).to (fun _ h => h) fun k hk => h k (.inl hk)⟩
  bd := fun u h k hk => by
    rcases hk with hk | hk
    · exact h.1 k hk
    · exact hk.elim
structure VO where
  j : JV
  cs : List Value
  t : Bs
  bad : Bool
def VF (o : Option (JV × Bs)) (s : Bs) (x : VO) : Prop := x.t.length ≤ s.length ∧ ((o = none ∧ x.bad = true) ∨ (o = some (x.j, x.t) ∧ x.bad = false))
/-- a function that reads a value -/
def ValC (g : FuncId) (vs : List Value) (o : Option (JV × Bs)) (s : Bs) (b : Nat) (d : Int) (w : World) : Prop :=
  Calls Tryd.prog g vs.toArray w fun e w' => ∃ x : VO, VF o s x ∧ e = .returned (.agg x.cs.toArray) ∧ Upd b (rdC x.t x.bad d) TRd w w' ∧ ∃ A : Nat → Prop, (∀ k, A k → w.heap.size ≤ k) ∧ Held w' A [(x.j, x.cs)]
section
variable {M : Bks} {B w w' : World} {L : List Ent}
theorem St.join (h : St M B w' L) {e : Ent} (ok : e.Ok w') {n : Nat} (hn : B.heap.size ≤ n) (hA : ∀ k, e.A k → n ≤ k) (hL : ∀ f ∈ L, ∀ k, f.A k → k < n) : St M B w' (L ++ [e]) := by
  refine ⟨h.os, h.tape, h.output, h.size, h.old, fun f hf => ?_, fun f hf k hk => ?_, ?_⟩
  · rcases List.mem_append.1 hf with hf | hf
    · exact h.ok f hf
    · obtain rfl : f = e := by simpa using hf
      exact ok
  · rcases List.mem_append.1 hf with hf | hf
    · exact h.ownW f hf k hk
    · obtain rfl : f = e := by simpa using hf
      exact .inl (Nat.le_trans hn (hA k hk.a))
  · refine List.pairwise_append.2 ⟨h.apart, by simp, ?_⟩
    intro x hx y hy
    obtain rfl : y = e := by simpa using hy
    exact fun k => ⟨fun h1 h2 => absurd (hL x hx k h1.a) (Nat.not_lt.2 (hA k h2)), fun h1 h2 => absurd (hL x hx k h2) (Nat.not_lt.2 (hA k h1.a))⟩
/-- a call that reads a value -/
theorem cUV {C : Cx} (k : Nat) {g : FuncId} {vs : List Value} {b : Nat} {c0 : Array Value} {d : Int} {o : Option (JV × Bs)} {s : Bs} {next : Value → List Ent → Prop} (hP : C.P = Tryd.prog) (hk : L[k]? = some (cl b c0 TRd))
    (h : ∀ w, St C.M C.B w L → ValC g vs o s b d w) (go : ∀ x A w, VF o s x → Held w A [(x.j, x.cs)] → next (.agg x.cs.toArray) (L.set k (cl b (rdC x.t x.bad d) TRd) ++ [rs (heldR A [(x.j, x.cs)])])) : CallP C g vs L next := by
  refine ⟨fun w hs => ?_⟩
  rw [hP]
  refine (h w hs).mono fun e w' ⟨x, hx, he, hu, A, hA, hH⟩ => ⟨_, _, he, ?_, go x A w' hx hH⟩
  refine St.join (hs.set hk hu.size hu.ok hu.old hu.os hu.tape hu.output) ((rsOk _ _).2 hH) hs.size (fun i hi => ?_) (fun f hf i hi => ?_)
  · rcases (rsA _ _).1 hi with hi | hi
    · exact hA i hi
    · exact hi.elim
  · rcases List.mem_or_eq_of_mem_set hf with hf | rfl
    · exact hs.ltA hf hi
    · have h2 := hs.ltA (List.mem_of_getElem? hk) (k := b) (.inl ⟨rfl, rfl⟩)
      obtain rfl : b = i := by simpa using hi
      exact h2
end
end Go.Proofs.YtpegkoklmhccjaaDoor
end
section
namespace Go.Proofs.YtpegkoklmhccjaaDoor
open Go.RowKit Go.Sx
set_option linter.unusedVariables false
section
variable {M : Bks} {B w w' : World} {L : List Ent}
theorem St.merge2 (h : St M B w L) {k j : Nat} {x y e' : Ent} (hk : L[k]? = some x) (hj : L[j]? = some y) (hkj : k ≠ j) (ok : e'.Ok w) (W : ∀ i, e'.W i → x.W i ∨ y.W i) (A : ∀ i, e'.A i → x.A i ∨ y.A i) : St M B w ((L.set j dead).set k e') := by
  have hjd := h.kill j
  refine ⟨h.os, h.tape, h.output, h.size, h.old, fun f hf => ?_, fun f hf i hi => ?_, ?_⟩
  · rcases mem_set_cases hf with rfl | ⟨i, _, hi⟩
    · exact ok
    · exact hjd.ok f (List.mem_of_getElem? hi)
  · rcases mem_set_cases hf with rfl | ⟨q, _, hq⟩
    · rcases W i hi with h1 | h1
      · exact h.ownW x (List.mem_of_getElem? hk) i h1
      · exact h.ownW y (List.mem_of_getElem? hj) i h1
    · exact hjd.ownW f (List.mem_of_getElem? hq) i hi
  · refine pw_set hjd.apart fun i f hik hi => ?_
    by_cases hij : i = j
    · subst hij
      rw [List.getElem?_set_self (List.getElem?_eq_some_iff.1 hj).1] at hi
      obtain rfl := Option.some.inj hi
      exact (dead_apart _).symm
    · rw [List.getElem?_set_ne (fun e => hij e.symm)] at hi
      have a1 := pw_ne h.apart hk hi (fun e => hik e.symm)
      have a2 := pw_ne h.apart hj hi (fun e => hij e.symm)
      exact fun q => ⟨fun h1 h2 => (W q h1).elim (fun h3 => (a1 q).1 h3 h2) (fun h3 => (a2 q).1 h3 h2), fun h1 h2 => (A q h2).elim (fun h3 => (a1 q).2 h1 h3) (fun h3 => (a2 q).2 h1 h3)⟩
/-- what two hold, one holds -/
theorem St.kids (h : St M B w L) {k j : Nat} {A A' : Nat → Prop} {ks ks' : List (JV × List Value)} (hk : L[k]? = some (rs (heldR A ks))) (hj : L[j]? = some (rs (heldR A' ks'))) (hkj : k ≠ j) :
    St M B w ((L.set j dead).set k (rs (heldR (fun i => A i ∨ A' i) (ks ++ ks')))) := by
  have h1 : Held w A ks := h.res hk
  have h2 : Held w A' ks' := h.res hj
  have e : ∀ i, (A i ∨ A' i) → (rs (heldR A ks)).W i ∨ (rs (heldR A' ks')).W i := fun i hi => hi.imp (fun h => (rsW _ _).2 h) (fun h => (rsW _ _).2 h)
  refine St.merge2 h hk hj hkj ((rsOk _ _).2 ⟨fun i hi => hi.elim (h1.1 i) (h2.1 i), fun x hx => ?_⟩) (fun i hi => e i ((rsW _ _).1 hi)) (fun i hi => ?_)
  · rcases List.mem_append.1 hx with hx | hx
    · exact (h1.2 x hx).to (fun _ h => .inl h) fun _ _ => rfl
    · exact (h2.2 x hx).to (fun _ h => .inr h) fun _ _ => rfl
  · rcases (rsA _ _).1 hi with hi | hi
    · exact (e i hi).imp Ent.W.a Ent.W.a
    · exact hi.elim
/-- what is one's own, besides the block that turns, is new -/
theorem St.fresh {b : Nat} {c : Array Value} {t : TypeId} (h : St [bl b] B w (cl b c t :: L)) {k : Nat} {e : Ent} (hk : L[k]? = some e) : ∀ i, e.W i → B.heap.size ≤ i := fun i hi => by
  rcases h.ownW e (List.mem_cons_of_mem _ (List.mem_of_getElem? hk)) i hi with h1 | h1
  · exact h1
  · obtain rfl : i = b := by simpa using h1
    have ha := pw_ne h.apart (i := 0) (j := k + 1) rfl (by simpa using hk) (by omega) i
    exact absurd hi.a (ha.1 (by simp))
end
theorem flat_at (z : Nat) (ks : List (List Value)) (hz : ∀ x ∈ ks, x.length = z) : ∀ (i : Nat) (x : List Value), ks[i]? = some x → ∀ (j : Nat) (v : Value), x[j]? = some v → ks.flatten[i * z + j]? = some v := by
  induction ks with
  | nil => intro i x h; simp at h
  | cons y ks ih =>
    intro i x h j v hv
    have hy := hz y List.mem_cons_self
    rw [List.flatten_cons]
    cases i with
    | zero =>
      obtain rfl : y = x := by simpa using h
      have := (List.getElem?_eq_some_iff.1 hv).1
      rw [Nat.zero_mul, Nat.zero_add, List.getElem?_append_left this]; exact hv
    | succ i =>
      rw [List.getElem?_append_right (by rw [hy, Nat.succ_mul]; omega), show (i + 1) * z + j - y.length = i * z + j by rw [hy, Nat.succ_mul]; omega]
      exact ih (fun x hx => hz x (List.mem_cons_of_mem _ hx)) i x (by simpa using h) j v hv
def rowB (r : Sx.Own) (i : Nat) : Prop := match r with
  | none => False
  | some (b, _, _) => i = b
/-- a row of one's own, «as» a slice -/
theorem row_at {M : Bks} {B w : World} {L : List Ent} (h : St M B w L) {k z n : Nat} {r : Sx.Own} {ks : List (List Value)} {e : TypeId} {A : Nat → Prop} {c : Nat → List Value} (hk : L[k]? = some (se r ks.flatten e)) (hR : Rw z n r ks.flatten) (hn : ks.length = n) (hz : ∀ x ∈ ks, x.length = z) (hA : ∀ i, rowB r i → A i) (hc : ∀ i x, ks[i]? = some x → c i = x) (hm : n ≤ maxLen) :
    RowAt w A z n c (sv r n) := by
  cases r with
  | none =>
    obtain rfl : n = 0 := hR.2
    exact .nil ..
  | some q =>
    obtain ⟨g, cap, jn⟩ := q
    refine ⟨hm, some ⟨g, 0, none⟩, cap, rfl, fun h0 => ⟨g, 0, rfl, hA g rfl, fun i hi => ?_⟩⟩
    have hi' : i < ks.length := by omega
    have e := hc i _ (List.getElem?_eq_getElem hi')
    rw [e]
    refine ⟨hz _ (List.getElem_mem hi'), fun j v hv => ?_⟩
    rw [h.cell hk, Nat.zero_add]
    have := flat_at z ks hz i _ (List.getElem?_eq_getElem hi') j v hv
    have hlt := (List.getElem?_eq_some_iff.1 this).1
    rw [List.getElem?_toArray, List.getElem?_append_left hlt]; exact this
/-- what stands in a list -/
def itmG (V : Bs → Option (JV × Bs)) : Nat → Bs → Option (List JV × Bs)
  | 0, _ => none
  | n + 1, s => match V s with
    | none => none
    | some (j, t) => if (eatP 93 t).1 then some ([j], (eatP 93 t).2) else if (eatP 44 (eatP 93 t).2).1 then (itmG V n (eatP 44 (eatP 93 t).2).2).map fun p => (j :: p.1, p.2) else none
/-- what stands behind a list's first sign -/
def lstG (V : Bs → Option (JV × Bs)) (t : Bs) : Option (JV × Bs) := (if (eatP 93 t).1 then some ([], (eatP 93 t).2) else itmG V ((eatP 93 t).2.length + 1) (eatP 93 t).2).map fun p => (.mk 4 0 [] p.1 [], p.2)
/-- one pair: its name, its value -/
def onePr (V : Bs → Option (JV × Bs)) (seen : List Bs) (s : Bs) : Option (Bs × JV × Bs) := match textP (ws s) with
  | none => none
  | some (name, t) => if name ∈ seen then none else if (eatP 58 t).1 then (V (eatP 58 t).2).map fun p => (name, p.1, p.2) else none
def prsG (V : Bs → Option (JV × Bs)) : List Bs → Nat → Bs → Option (List (Bs × JV) × Bs)
  | _, 0, _ => none
  | seen, n + 1, s => match onePr V seen s with
    | none => none
    | some (name, j, u) => if (eatP 125 u).1 then some ([(name, j)], (eatP 125 u).2) else if (eatP 44 (eatP 125 u).2).1 then (prsG V (name :: seen) n (eatP 44 (eatP 125 u).2).2).map fun p => ((name, j) :: p.1, p.2) else none
def objG (V : Bs → Option (JV × Bs)) (t : Bs) : Option (JV × Bs) := (if (eatP 125 t).1 then some ([], (eatP 125 t).2) else prsG V [] ((eatP 125 t).2.length + 1) (eatP 125 t).2).map fun p => (.mk 5 0 [] [] p.1, p.2)
def valT (ls os : Bs → Option (JV × Bs)) (c : UInt8) (t : Bs) : Option (JV × Bs) :=
  if c = 110 then (pre [110, 117, 108, 108] (c :: t)).map fun u => (.mk 0 0 [] [] [], u)
  else if c = 116 then (pre [116, 114, 117, 101] (c :: t)).map fun u => (.mk 1 1 [] [] [], u)
  else if c = 102 then (pre [102, 97, 108, 115, 101] (c :: t)).map fun u => (.mk 1 0 [] [] [], u)
  else if c = 34 then (textP (c :: t)).map fun p => (.mk 3 0 p.1 [] [], p.2)
  else if c = 91 then ls t
  else if c = 123 then os t
  else (numP (c :: t)).map fun p => (.mk 2 p.1 [] [] [], p.2)
def valS (ls os : Bs → Option (JV × Bs)) (s : Bs) : Option (JV × Bs) := match ws s with
  | [] => none
  | c :: t => valT ls os c t
/-- the value at a text's beginning; r: how much deeper lists and objects may go -/
def jvD : Nat → Bs → Option (JV × Bs)
  | 0 => valS (fun _ => none) (fun _ => none)
  | r + 1 => valS (lstG (jvD r)) (objG (jvD r))
end Go.Proofs.YtpegkoklmhccjaaDoor
end
section
namespace Go.Proofs.YtpegkoklmhccjaaDoor
open Go.RowKit Go.Sx
set_option linter.unusedVariables false
abbrev TV : Nat := 25
theorem enterVC {T : Tab} (hT : TabOk Tryd.prog T) {g : FuncId} {fn : Func} {cd : Code} (hf : Tryd.prog.funcs[g]? = some fn) (hb : fn.body = some cd) {N : Nat} (hN : fn.ntmps = N) {vs : List Value} (hle : Nat.ble vs.length N = true) {w : World} {b : Nat} {d : Int} {o : Option (JV × Bs)} {s : Bs} {L : List Ent}
    (hw : St [bl b] w w L) (h : cx ⟨Tryd.prog, T, N, [bl b], w, none⟩ cd (retK ⟨Tryd.prog, T, N, [bl b], w, none⟩ fn fun u w' => ∃ x : VO, VF o s x ∧ u = .agg x.cs.toArray ∧ Upd b (rdC x.t x.bad d) TRd w w' ∧ ∃ A : Nat → Prop, (∀ k, A k → w.heap.size ≤ k) ∧ Held w' A [(x.j, x.cs)]) ⟨par 0 vs, L, []⟩) : ValC g vs o s b d w :=
  (enter hT hf hb hN hle hw h).mono fun e w' ⟨u, he, x, hx, hu, h2⟩ => ⟨x, hx, by rw [he, hu], h2⟩
theorem St.rdH {w : World} {b : Nat} {s : Bs} {bad : Bool} {d : Int} (hb : w.heap[b]? = some (.cells (rdC s bad d) TRd (0, 0))) (h : Laid w) : St [bl b] w w [cl b (rdC s bad d) TRd, rs laidR, rs (heldR (fun _ => False) [])] :=
  St.join (St.rdL hb h) (e := rs (heldR (fun _ => False) [])) ((rsOk _ _).2 ⟨fun _ h => h.elim, fun x hx => by simp at hx⟩) (Nat.le_refl _) (fun k hk => ((rsA _ _).1 hk).elim (fun h => h.elim) fun h => h.elim) (fun f hf k hk => (St.rdL hb h).ltA hf hk)
/-- a reader of values, in a reader that stands at b, at a depth -/
def VIs (V : Bs → Option (JV × Bs)) (b : Nat) (d : Int) : Prop := ∀ s w, s.length ≤ 100000 → w.heap[b]? = some (.cells (rdC s false d) TRd (0, 0)) → Laid w → ValC 26 [pj b] (V s) s b d w
section
variable {b : Nat} {t : Bs} {d : Nat} {w : World}
theorem eat_open (c : UInt8) (hc : blk c = false) (t : Bs) : eatP c (c :: t) = (true, t) := by
  unfold eatP
  rw [show ws (c :: t) = c :: t by unfold ws; rw [hc]; rfl]
  simp
theorem infoV : (Tryd.prog.info? TV).map (fun i => (i.zero, i.size, i.bytes)) = some (some (.agg (valC 0 0 [])), 5, 80) := by kernel_rfl
theorem undL : Tryd.prog.underlying 22 = some (.slice TV) := by kernel_rfl
theorem bsV (w : World) : (Instr.buildSlice 22 1 #[(0, .agg (valC 0 0 []))]).run Tryd.prog w = .ok (.slice (some ⟨w.heap.size, 0, none⟩) 1 1) (w.alloc (.cells (valC 0 0 []) TV)) := by
  obtain ⟨i, hi, hz, hs, hb⟩ := infoOf infoV
  exact run_buildSlice w _ _ 1 _ (valC 0 0 []) i (.agg (valC 0 0 [])) undL hi hz (by rw [hs]; decide) (by rw [hs]; decide) (by rw [hs]; kernel_rfl)
structure LsI where
  ks : List (JV × List Value)
  r : Sx.Own
  a : Option Addr
  cc : Nat
  A : Nat → Prop
  t : Bs
  bad : Bool
  n : Nat
abbrev ksX (ks : List (JV × List Value)) : List Value := (ks.map (·.2)).flatten
structure LsJ (o : Option (List JV × Bs)) (V : Bs → Option (JV × Bs)) (t : Bs) (x : LsI) : Prop where
  tl : x.t.length ≤ t.length
  kl : x.bad = false → x.ks.length + x.t.length ≤ t.length
  km : x.ks.length ≤ t.length + 1
  n : x.t.length < x.n
  R : Rw 5 x.ks.length x.r (ksX x.ks)
  e : sv x.r x.ks.length = .slice x.a x.ks.length x.cc
  z : ∀ y ∈ x.ks, y.2.length = 5
  ok : (x.bad = true ∧ o = none) ∨ (x.bad = false ∧ o = (itmG V x.n x.t).map fun p => (x.ks.map (·.1) ++ p.1, p.2))
def lsL (b : Nat) (d : Int) (b1 b2 b3 b4 : Nat) (x : LsI) : List Ent := [cl b (rdC x.t x.bad d) TRd, rs laidR, rs (heldR x.A x.ks), cl b1 #[pj b] 58, cl b2 (valC 0 0 []) TV, cl b3 #[.int .i64 4, .int .i64 0, sj [], .slice x.a x.ks.length x.cc, .slice none 0 0] TV, cl b4 #[pj b] 58, se x.r (ksX x.ks) TV]
/-- what a list's reader gives in the end -/
theorem list_end {L : List Ent} {w w' : World} {b : Nat} {d : Int} {u : Bs} {bad : Bool} {o : Option (JV × Bs)} {s : Bs} {ks : List (JV × List Value)} {r : Sx.Own} {a : Option Addr} {cc : Nat} {A : Nat → Prop} (hs : St [bl b] w w' (cl b (rdC u bad d) TRd :: L)) (k kr : Nat) (hk : L[k]? = some (rs (heldR A ks))) (hr : L[kr]? = some (se r (ksX ks) TV))
    (hR : Rw 5 ks.length r (ksX ks)) (e : sv r ks.length = .slice a ks.length cc) (hz : ∀ y ∈ ks, y.2.length = 5) (hn : ks.length ≤ maxLen) (hu : u.length ≤ s.length) (ho : (bad = true ∧ o = none) ∨ (bad = false ∧ o = some (.mk 4 0 [] (ks.map (·.1)) [], u))) :
    ∃ x : VO, VF o s x ∧ Value.agg #[.int .i64 4, .int .i64 0, sj [], .slice a ks.length cc, .slice none 0 0] = .agg x.cs.toArray ∧ Upd b (rdC x.t x.bad d) TRd w w' ∧ ∃ A : Nat → Prop, (∀ k, A k → w.heap.size ≤ k) ∧ Held w' A [(x.j, x.cs)] := by
  have hH : Held w' A ks := hs.res (k := k + 1) (by simpa using hk)
  have hW : ∀ i, rowB r i → (se r (ksX ks) TV).W i := fun i hi => by
    cases r with
    | none => exact hi.elim
    | some q => obtain rfl : i = q.1 := hi; simp [se]
  refine ⟨⟨.mk 4 0 [] (ks.map (·.1)) [], vcl 4 0 [] (.slice a ks.length cc) (.slice none 0 0), u, bad⟩, ⟨hu, ?_⟩, rfl, hs.updU, fun i => A i ∨ rowB r i, fun i hi => ?_, fun i hi => ?_, fun x hx => ?_⟩
  · rcases ho with ⟨h1, h2⟩ | ⟨h1, h2⟩
    · exact .inl ⟨h2, h1⟩
    · exact .inr ⟨h2, h1⟩
  · rcases hi with hi | hi
    · exact St.fresh hs hk i ((rsW _ _).2 hi)
    · exact St.fresh hs hr i (hW i hi)
  · rcases hi with hi | hi
    · exact hH.1 i hi
    · exact hs.ltA (List.mem_cons_of_mem _ (List.mem_of_getElem? hr)) (hW i hi).a
  · obtain rfl : x = _ := by simpa using hx
    refine .mk (fun n => ((ks[n]?).map (·.2)).getD []) (fun _ => []) ?_ (.nil ..) (fun n j h => ?_) (fun n q h => by simp at h)
    · rw [List.length_map, ← e]
      refine row_at hs (k := kr + 1) (ks := ks.map (·.2)) (by simpa using hr) hR (by simp) (fun y hy => ?_) (fun i hi => .inr hi) (fun i y hy => ?_) hn
      · obtain ⟨z, h1, rfl⟩ := List.mem_map.1 hy
        exact hz z h1
      · rw [List.getElem?_map] at hy
        rw [hy]; rfl
    · rw [List.getElem?_map] at h
      cases hq : ks[n]? with
      | none => rw [hq] at h; cases h
      | some y =>
        rw [hq] at h
        obtain rfl : y.1 = j := by simpa using h
        exact (hH.2 y (List.mem_of_getElem? hq)).to (fun _ h => .inl h) fun _ _ => rfl
end
end Go.Proofs.YtpegkoklmhccjaaDoor
end
section
namespace Go.Proofs.YtpegkoklmhccjaaDoor
open Go.RowKit Go.Sx
set_option linter.unusedVariables false
theorem CallP.mono {C : Cx} {g : FuncId} {vs : List Value} {L : List Ent} {Q next : Value → List Ent → Prop} (h : CallP C g vs L Q) (hn : ∀ v L', Q v L' → next v L') : CallP C g vs L next :=
  ⟨fun w hs => (h.go w hs).mono fun e w' ⟨v, L', he, h1, h2⟩ => ⟨v, L', he, h1, hn v L' h2⟩⟩
section
variable {C : Cx} {L : List Ent}
theorem apV (k : Nat) {v : Value} {r : Sx.Own} {n : Nat} (hv : sv r n = v) (hT : TabOk C.P C.T) {t tx ty e z by' : Nat} {zv : Value} {cs : Array Bool} {xs news : List Value} {m : Nat} {x : Value} {next : Value → List Ent → Prop}
    (ht : Sx.look C.T.rows t fun y _ => y = .sl e z) (hi : (C.P.info? e).map (fun i => (i.zero, i.size, i.bytes)) = some (some zv, z, by')) (hz : zv.cells.size = z)
    (hk : L[k]? = some (se r xs e)) (hR : Rw z n r xs) (hsrc : ∀ w, St C.M C.B w L → Src C.P z tx x m news w)
    (hby : (n + m + (n + m) / 4 + 192) * by' ≤ 281474976710656) (h63 : n + m ≤ maxLen) (hm : 0 < m) (go : ∀ g cap jn, Rw z (n + m) (some (g, cap, jn)) (xs ++ news) → next (.slice (some ⟨g, 0, none⟩) (n + m) cap) (L.set k (cl g ((xs ++ news) ++ jn).toArray e))) :
    BiP C .append #[t, tx] ty cs [v, x] L next := by
  subst hv
  refine ap k hT ht hi hz hk hR hsrc hby h63 fun r' hR' => ?_
  cases r' with
  | none => have : n + m = 0 := hR'.2; omega
  | some q => obtain ⟨g, cap, jn⟩ := q; exact go g cap jn hR'
end
theorem row_put (X Z Y cs : List Value) (o : Nat) (ho : o = X.length) (hz : Z.length = cs.length) : ((X ++ Z ++ Y).toArray.toList.take o ++ cs.toArray.toList ++ (X ++ Z ++ Y).toArray.toList.drop (o + cs.toArray.size)).toArray = (X ++ cs ++ Y).toArray := by
  subst ho
  simp only [List.append_assoc, List.size_toArray, ← hz]
  rw [List.take_left, ← List.drop_drop, List.drop_left, List.drop_left]
section
variable {b : Nat} {w : World}
theorem ksX_app (ks : List (JV × List Value)) (j : JV) (cs : List Value) : ksX (ks ++ [(j, cs)]) = ksX ks ++ cs := by simp [ksX]
set_option maxRecDepth 100000 in
/-- one thing of a list -/
theorem list_one {N : Nat} {F : Option Nat} {V : Bs → Option (JV × Bs)} {D : Int} {b1 b2 b3 b4 : Nat} (hV : VIs V b D) {ks : List (JV × List Value)} {r : Sx.Own} {a : Option Addr} {cc : Nat} {A : Nat → Prop} {v : Bs} {n : Nat} (hv : v.length ≤ 100000) (hkl : ks.length ≤ 100000) (hR : Rw 5 ks.length r (ksX ks)) (he : sv r ks.length = .slice a ks.length cc) :
    CallP ⟨Tryd.prog, tab, N, [bl b], w, F⟩ 67 [pj b1, pj b3] (lsL b D b1 b2 b3 b4 ⟨ks, r, a, cc, A, v, false, n⟩) fun u L' => ∃ j cs v2 bd r' a' cc', ∃ A' : Nat → Prop, VF (V v) v ⟨j, cs, v2, bd⟩ ∧ cs.length = 5 ∧ Rw 5 (ks.length + 1) r' (ksX (ks ++ [(j, cs)])) ∧ sv r' (ks.length + 1) = .slice a' (ks.length + 1) cc' ∧ u = .tuple #[] ∧ L' = lsL b D b1 b2 b3 b4 ⟨ks ++ [(j, cs)], r', a', cc', fun i => A i ∨ A' i, v2, bd, n - 1⟩ := by
  refine inl (C := ⟨Tryd.prog, tab, N, [bl b], w, F⟩) tab_ok Tryd.func67 rfl Tryd.ntmps67 rfl ?_
  refine ld1 3 rfl rfl ?_
  refine cUV 0 rfl rfl (fun w hs => hV v w hv (hs.nth (k := 0) rfl) (hs.res (k := 1) rfl)) (fun x A' w0 hx hH => ?_)
  obtain ⟨j, cs, v2, bd⟩ := x
  have hcs := hH.2 _ (List.mem_singleton.2 rfl)
  have hc5 := hcs.len
  have hc1 := hcs.one
  dsimp only at hc5 hc1 ⊢
  intro b5
  refine sN 9 rfl (by rw [List.size_toArray, hc5]; rfl) (by simpa using hc1) ?_ (by rw [List.size_toArray, hc5]; kernel_rfl)
  refine drs [dead, dead, dead, dead, dead, cl b3 #[.int .i64 4, .int .i64 0, sj [], .slice a ks.length cc, .slice none 0 0] TV, dead, dead, dead, cl b5 cs.toArray TV] [6, 7, 8, 9] (.t 0 (.t 1 (.t 2 (.t 3 (.n 4 (.n 5 (.b 6 8 (.b 7 8 (.n 8 (.n 9 .nil)) (.b 7 9 (.n 9 .nil) (.n 7 .nil))) (.b 6 9 (.b 7 9 (.n 9 .nil) (.n 7 .nil)) (.n 6 (.n 7 .nil)))))))))) tab_ok mixed_ok (by kernel_rfl) (.dead (.dead (.dead (.dead (.dead (.cons (.dead (.dead (.dead (.cons .nil)))))))))) ?_
  refine ld1 5 rfl rfl ?_
  refine ldN 9 rfl (by rw [List.size_toArray, hc5]) ?_
  refine .mk _ _ bsV (fun b6 => ?_)
  refine ⟨.dead (.dead (.dead (.dead (.dead (.cons (.dead (.dead (.dead (.cons .nil))))))))), ?_⟩
  refine apV 7 he tab_ok (news := (valC 0 0 []).toList) (m := 1) rfl infoV rfl rfl hR (srcE (C := ⟨Tryd.prog, tab, 13, [bl b], w, none⟩) (e' := TV) (tx := 22) (z := 5) rfl tab_ok (src 10 rfl rfl) rfl (by simp [Value.oneCell'])) (by omega) (by unfold maxLen; omega) (by decide) (fun g cap jn hR' => ?_)
  refine ⟨.dead (.dead (.dead (.dead (.dead (.cons (.dead (.dead (.dead (.cons .nil))))))))), ?_⟩
  dsimp only at hR'
  have hRn : Rw 5 (ks.length + 1) (some (g, cap, jn)) (ksX (ks ++ [(j, cs)])) := by
    have h5 : (valC 0 0 []).toList.length = 5 := rfl
    obtain ⟨k1, k2, k3, k4⟩ := hR'
    exact ⟨by rw [ksX_app, List.length_append, hR.1, hc5]; omega, k2, k3, by rw [List.length_append, List.length_append, h5] at k4; rw [ksX_app, List.length_append, List.length_append, hc5]; exact k4⟩
  have ho : nad 0 (nmu ((ks.length : Nat) : Int).toNat 5) = (ksX ks).length := by rw [nad_eq, nmu_eq, Int.toNat_natCast, Nat.zero_add]; exact hR.1.symm
  have hlen : (ks ++ [(j, cs)]).length = ks.length + 1 := by simp
  have hput := row_put (ksX ks) (valC 0 0 []).toList jn cs _ ho hc5.symm
  have hfit : nad 0 (nmu ((ks.length : Nat) : Int).toNat 5) + cs.toArray.size ≤ (ksX ks ++ (valC 0 0 []).toList ++ jn).toArray.size := by
    have h5 : (valC 0 0 []).toList.length = 5 := rfl
    rw [ho, List.size_toArray, List.size_toArray, List.length_append, List.length_append, h5, hc5]; omega
  refine ⟨?_, ?_⟩
  · refine ⟨by omega, by omega, ?_⟩
    refine ⟨?_, ?_⟩
    · refine sP 7 rfl hfit (by simpa using hc1) hput ?_ (by rw [List.size_toArray, hc5]; kernel_rfl)
      refine s1 5 rfl (by show 3 < 5; decide) ?_
      exact ⟨fun w' hs => ⟨lsL b D b1 b2 b3 b4 ⟨ks ++ [(j, cs)], some (g, cap, jn), some ⟨g, 0, none⟩, cap, fun i => A i ∨ A' i, v2, bd, n - 1⟩, (St.kids hs (k := 2) (j := 8) rfl rfl (by decide)).sub (by unfold lsL; dsimp only; rw [ksX_app, hlen]; exact .cons (.cons (.cons (.cons (.cons (.cons (.cons (.cons .nil)))))))), j, cs, v2, bd, some (g, cap, jn), some ⟨g, 0, none⟩, cap, A', hx, hc5, hRn, rfl, rfl, rfl⟩⟩
    · refine ⟨?_, ?_⟩
      · refine sP 7 rfl hfit (by simpa using hc1) hput ?_ (by rw [List.size_toArray, hc5]; kernel_rfl)
        refine s1 5 rfl (by show 3 < 5; decide) ?_
        exact ⟨fun w' hs => ⟨lsL b D b1 b2 b3 b4 ⟨ks ++ [(j, cs)], some (g, cap, jn), some ⟨g, 0, none⟩, cap, fun i => A i ∨ A' i, v2, bd, n - 1⟩, (St.kids hs (k := 2) (j := 8) rfl rfl (by decide)).sub (by unfold lsL; dsimp only; rw [ksX_app, hlen]; exact .cons (.cons (.cons (.cons (.cons (.cons (.cons (.cons .nil)))))))), j, cs, v2, bd, some (g, cap, jn), some ⟨g, 0, none⟩, cap, A', hx, hc5, hRn, rfl, rfl, rfl⟩⟩
      · refine s1 5 rfl (by show 3 < 5; decide) ?_
        refine sP 7 rfl hfit (by simpa using hc1) hput ?_ (by rw [List.size_toArray, hc5]; kernel_rfl)
        exact ⟨fun w' hs => ⟨lsL b D b1 b2 b3 b4 ⟨ks ++ [(j, cs)], some (g, cap, jn), some ⟨g, 0, none⟩, cap, fun i => A i ∨ A' i, v2, bd, n - 1⟩, (St.kids hs (k := 2) (j := 8) rfl rfl (by decide)).sub (by unfold lsL; dsimp only; rw [ksX_app, hlen]; exact .cons (.cons (.cons (.cons (.cons (.cons (.cons (.cons .nil)))))))), j, cs, v2, bd, some (g, cap, jn), some ⟨g, 0, none⟩, cap, A', hx, hc5, hRn, rfl, rfl, rfl⟩⟩
  · refine ⟨?_, ?_⟩
    · refine ⟨by omega, by omega, ?_⟩
      refine ⟨?_, ?_⟩
      · refine sP 7 rfl hfit (by simpa using hc1) hput ?_ (by rw [List.size_toArray, hc5]; kernel_rfl)
        refine s1 5 rfl (by show 3 < 5; decide) ?_
        exact ⟨fun w' hs => ⟨lsL b D b1 b2 b3 b4 ⟨ks ++ [(j, cs)], some (g, cap, jn), some ⟨g, 0, none⟩, cap, fun i => A i ∨ A' i, v2, bd, n - 1⟩, (St.kids hs (k := 2) (j := 8) rfl rfl (by decide)).sub (by unfold lsL; dsimp only; rw [ksX_app, hlen]; exact .cons (.cons (.cons (.cons (.cons (.cons (.cons (.cons .nil)))))))), j, cs, v2, bd, some (g, cap, jn), some ⟨g, 0, none⟩, cap, A', hx, hc5, hRn, rfl, rfl, rfl⟩⟩
      · refine s1 5 rfl (by show 3 < 5; decide) ?_
        refine sP 7 rfl hfit (by simpa using hc1) hput ?_ (by rw [List.size_toArray, hc5]; kernel_rfl)
        exact ⟨fun w' hs => ⟨lsL b D b1 b2 b3 b4 ⟨ks ++ [(j, cs)], some (g, cap, jn), some ⟨g, 0, none⟩, cap, fun i => A i ∨ A' i, v2, bd, n - 1⟩, (St.kids hs (k := 2) (j := 8) rfl rfl (by decide)).sub (by unfold lsL; dsimp only; rw [ksX_app, hlen]; exact .cons (.cons (.cons (.cons (.cons (.cons (.cons (.cons .nil)))))))), j, cs, v2, bd, some (g, cap, jn), some ⟨g, 0, none⟩, cap, A', hx, hc5, hRn, rfl, rfl, rfl⟩⟩
    · refine s1 5 rfl (by show 3 < 5; decide) ?_
      refine ⟨by omega, by omega, ?_⟩
      refine sP 7 rfl hfit (by simpa using hc1) hput ?_ (by rw [List.size_toArray, hc5]; kernel_rfl)
      exact ⟨fun w' hs => ⟨lsL b D b1 b2 b3 b4 ⟨ks ++ [(j, cs)], some (g, cap, jn), some ⟨g, 0, none⟩, cap, fun i => A i ∨ A' i, v2, bd, n - 1⟩, (St.kids hs (k := 2) (j := 8) rfl rfl (by decide)).sub (by unfold lsL; dsimp only; rw [ksX_app, hlen]; exact .cons (.cons (.cons (.cons (.cons (.cons (.cons (.cons .nil)))))))), j, cs, v2, bd, some (g, cap, jn), some ⟨g, 0, none⟩, cap, A', hx, hc5, hRn, rfl, rfl, rfl⟩⟩
end
end Go.Proofs.YtpegkoklmhccjaaDoor
end
section
namespace Go.Proofs.YtpegkoklmhccjaaDoor
open Go.RowKit Go.Sx
set_option linter.unusedVariables false
theorem held_leaf (w : World) (k i : Int) (s : Bs) : Held w (fun _ => False) [(.mk k i s [] [], vcl k i s (.slice none 0 0) (.slice none 0 0))] :=
  ⟨fun k h => h.elim, fun x hx => by
    obtain rfl : x = _ := by simpa using hx
    exact Rv.leaf ..⟩
section
variable {b : Nat} {s : Bs} {bad : Bool} {D : Int} {w : World}
set_option maxRecDepth 100000 in
/-- nothing is left, or it is bad: no value -/
theorem value_fail (hb : ws s = [] ∨ bad = true) (hl : s.length ≤ 100000) (h : w.heap[b]? = some (.cells (rdC s bad D) TRd (0, 0))) : ValC 26 [pj b] none s b D w := by
  refine enterVC tab_ok Tryd.func26 rfl Tryd.ntmps26 rfl (St.onlyU h) ?_
  have hw := ws_len s
  have fin : ∀ (w' : World) (L : List Ent), St [bl b] w w' (cl b (rdC (ws s) true D) TRd :: L) → ∃ x : VO, VF none s x ∧ Value.agg (valC 0 0 []) = .agg x.cs.toArray ∧ Upd b (rdC x.t x.bad D) TRd w w' ∧ ∃ A : Nat → Prop, (∀ k, A k → w.heap.size ≤ k) ∧ Held w' A [(x.j, x.cs)] := fun w' L hs =>
    ⟨⟨.mk 0 0 [] [] [], vcl 0 0 [] (.slice none 0 0) (.slice none 0 0), ws s, true⟩, ⟨hw, .inl ⟨rfl, rfl⟩⟩, rfl, hs.updU, fun _ => False, fun k h => h.elim, held_leaf ..⟩
  intro b2
  refine cU1 0 rfl (fun w h => blanks_any hl h) ?_
  refine ld1 0 rfl (v := sj (ws s)) rfl ?_
  cases hs : ws s with
  | nil =>
    iterate 4 refine cf (by simp) ?_
    refine ct (by simp) ?_
    refine ct rfl ?_
    refine cU1 0 rfl (fun w h => fail_any h) ?_
    refine bu (c := valC 0 0 []) rfl ?_
    refine sN 1 rfl rfl (by simp [Value.oneCell']) ?_ (by kernel_rfl)
    refine ldN 1 rfl rfl ?_
    exact ⟨fun w' h' => fin w' _ (by rw [hs]; exact h')⟩
  | cons c t =>
    have hbad : bad = true := by rcases hb with h1 | h1; · rw [hs] at h1; cases h1
                                 · exact h1
    subst hbad
    iterate 4 refine ct (ne0b c t) ?_
    refine ld1 0 rfl rfl ?_
    refine cf (ne0 c t) ?_
    refine ct rfl ?_
    refine cU1 0 rfl (fun w h => fail_any h) ?_
    refine bu (c := valC 0 0 []) rfl ?_
    refine sN 1 rfl rfl (by simp [Value.oneCell']) ?_ (by kernel_rfl)
    refine ldN 1 rfl rfl ?_
    exact ⟨fun w' h' => fin w' _ (by rw [hs]; exact h')⟩
end
end Go.Proofs.YtpegkoklmhccjaaDoor
end
