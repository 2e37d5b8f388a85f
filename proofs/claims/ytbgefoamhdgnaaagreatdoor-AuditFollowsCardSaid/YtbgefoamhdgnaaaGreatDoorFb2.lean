/- For all texts, steps and numbers the law AuditFollows returns true, and they read as they did; no condition. -/
import Derived.RangeFuncBound
import Derived.RangeFuncRecord
import Derived.Great.BuildSlice
import Derived.Test.YtbgefoamhdgnaaaGreatDoorProg
import Derived.WalkKit
import Derived.WalkSpells
import Derived.WalkLawsBesides
import Derived.Deep.QuietTactic
import Derived.BigQuiet
import Derived.Deep.RegionHeld3
import Derived.StillTailTactics
import Derived.Lib.Mul64
import Derived.Laws.Bits64b
import Derived.Laws.Externs
import Derived.Lib.Hide
import Derived.RowKit3
import Derived.LoopTactic
import Derived.Deep.LoopGhost
import Derived.Test.YtbgefoamhdgnaaaGreatDoorFb1
set_option maxRecDepth 100000
set_option maxHeartbeats 16000000
set_option linter.unusedVariables false
set_option linter.unusedSimpArgs false
namespace Go.Sx
section
open Go Go.RowKit
def Res.A (r : Res) (k : Nat) : Prop := r.w k ∨ r.r k
structure Itr (P : Program) (g : FuncId) (lb : List Value) {I : Type} (i0 : I) (nx : I → List Value → I → Prop) (fin : I → Prop) (H : Res) : Prop where
 go : ∀ (l : Nat) (α β : Type) (R : I → α → Res) (S : β → Res) (W : World) (x0 : α), (R i0 x0).p W → H.p W → (∀ k, H.A k → ¬ (R i0 x0).w k) →
  (∀ i args j x w, nx i args j → (R i x).p w → ∀ m, YieldAt Fence.wide m P l args.toArray w fun e w' => (e = .returned (.bool true) ∧ ∃ y, Turns w w' (R i x) (R j y)) ∨ (e = .returned (.bool false) ∧ ∃ y, Turns w w' (R i x) (S y))) →
  Calls P g (.func (.yield l) #[] #[] :: lb).toArray W fun e W' => (∃ v, e = .returned v) ∧ ((∃ i y, fin i ∧ Turns W W' (R i0 x0) (R i y)) ∨ ∃ y, Turns W W' (R i0 x0) (S y))
theorem yd {C : Cx} {L : List Ent} {l : Nat} {args : List Value} {I α β : Type} {R : I → α → Res} {S : β → Res} {nx : I → List Value → I → Prop} (k : Nat) {i j : I} {x : α} {next : Value → List Ent → Prop} (hk : L[k]? = some (rs (R i x)))
 (hr : ∀ i args j x w, nx i args j → (R i x).p w → ∀ m, YieldAt Fence.wide m C.P l args.toArray w fun e w' => (e = .returned (.bool true) ∧ ∃ y, Turns w w' (R i x) (R j y)) ∨ (e = .returned (.bool false) ∧ ∃ y, Turns w w' (R i x) (S y)))
 (hn : nx i args j) (g1 : ∀ y, (∀ b, (R j y).A b → (R i x).A b ∨ C.B.heap.size ≤ b) → next (.bool true) (L.set k (rs (R j y)))) (g0 : ∀ y, (∀ b, (S y).A b → (R i x).A b ∨ C.B.heap.size ≤ b) → next (.bool false) (L.set k (rs (S y)))) : YieldP C l args L next := by
 refine ⟨fun w hs m => YieldAt.mono (hr i args j x w hn (hs.res hk) m) fun e w' h => ?_⟩
 have hsz := hs.size
 rcases h with ⟨he, y, ht⟩ | ⟨he, y, ht⟩
 · exact ⟨_, _, he, hs.turn hk ht, g1 y fun b hb => (ht.A b hb).imp id fun h => Nat.le_trans hsz h⟩
 · exact ⟨_, _, he, hs.turn hk ht, g0 y fun b hb => (ht.A b hb).imp id fun h => Nat.le_trans hsz h⟩
def Res.rd (r : Res) : Res := ⟨fun _ => False, fun k => r.w k ∨ r.r k, r.p, fun u v h => r.st u v fun k hk => h k (.inr hk), fun u h k hk => r.bd u h k (by rcases hk with hk | hk; exact hk.elim; exact hk)⟩
def Ent.rd (e : Ent) : Ent := ⟨e.b, e.o, true, e.q.map Res.rd⟩
theorem Ent.rdW (e : Ent) (k : Nat) : ¬ e.rd.W k := by
 rintro (⟨_, h, _⟩ | ⟨r, h, hr⟩)
 · cases h
 · simp only [Ent.rd, Option.map_eq_some_iff] at h
   obtain ⟨r', _, rfl⟩ := h
   exact hr
theorem Ent.rdA (e : Ent) (k : Nat) : e.rd.A k ↔ e.A k := by
 unfold Ent.A Ent.rd
 constructor
 · rintro (h | ⟨r, h, hr⟩)
   · exact .inl h
   · simp only [Option.map_eq_some_iff] at h
     obtain ⟨r', h1, rfl⟩ := h
     exact .inr ⟨r', h1, by rcases hr with hr | hr; exact hr.elim; exact hr⟩
 · rintro (h | ⟨r, h, hr⟩)
   · exact .inl h
   · exact .inr ⟨r.rd, by rw [h]; rfl, .inr hr⟩
theorem Ent.rdOk (e : Ent) (w : World) : e.rd.Ok w ↔ e.Ok w := by
 unfold Ent.Ok Ent.rd
 constructor
 · rintro ⟨h1, h2⟩
   exact ⟨h1, fun r hr => h2 r.rd (by rw [hr]; rfl)⟩
 · rintro ⟨h1, h2⟩
   refine ⟨h1, fun r hr => ?_⟩
   simp only [Option.map_eq_some_iff] at hr
   obtain ⟨r', h3, rfl⟩ := hr
   exact h2 r' h3
structure qfd (e0 e : Ent) (l : Nat) (o : Obj) (F : List Ent) (u : World) : Prop where
 ok : e.Ok u
 lp : u.heap[l]? = some o
 fr : ∀ f ∈ F, f.Ok u
 ap : ∀ f ∈ F, Apart e f
 fl : ∀ f ∈ F, ¬ f.A l
 el : ¬ e.A l
 e0 : ∀ k, e.A k → e0.A k ∨ l < k
def qcK (e0 e : Ent) (l : Nat) (o : Obj) (F : List Ent) : Res where
 w k := e.W k ∨ k = l
 r k := e.A k ∨ ∃ f ∈ F, f.A k
 p u := qfd e0 e l o F u
 st u v h := fun hp => ⟨hp.ok.same fun k hk => h k (.inr (.inl hk)), (h l (.inl (.inr rfl))).trans hp.lp, fun f hf => (hp.fr f hf).same fun k hk => h k (.inr (.inr ⟨f, hf, hk⟩)), hp.ap, hp.fl, hp.el, hp.e0⟩
 bd u := fun hp k hk => by
  rcases hk with (hk | rfl) | hk | ⟨f, hf, hk⟩
  · exact hp.ok.lt hk.a
  · exact (Array.getElem?_eq_some_iff.1 hp.lp).1
  · exact hp.ok.lt hk
  · exact (hp.fr f hf).lt hk
def qcR (N : Nat) : List Tmp → List Value → Fr → Fr
 | p :: ps, v :: vs, σ => qcR N ps vs (put N (some p) v σ)
 | _, _, σ => σ
theorem qdH {N : Nat} {D : List Deferred} (ps : List Tmp) : ∀ (vs : List Value) (σ : Fr) (L L' : List Ent) (a : Act), Fits N ⟨σ, L, D⟩ a → Fits N ⟨qcR N ps vs σ, L', []⟩ { tmps := (ps.zip vs).foldl (fun t (p, v) => t.setIfInBounds p v) a.tmps, defers := [] } := by
 induction ps with
 | nil => intro vs σ L L' a h; exact ⟨h.size, rfl, h.slot⟩
 | cons p ps ih =>
  intro vs σ L L' a h
  cases vs with
  | nil => exact ⟨h.size, rfl, h.slot⟩
  | cons v vs =>
   have := ih vs _ L L' (a.put (some p) v) (h.put (some p) v L)
   exact this
def ZQ {I α β : Type} (E : I → α → Ent) (S : β → Ent × Code) (l : Nat) (busy : Obj) (B : World) (e : Ent) (j : I) : Exit → Sy → Prop := fun x s => match x with
 | .normal => ∃ y, Sub [E j y, ⟨l, some busy, false, none⟩] s.L ∧ ∀ b, (E j y).A b → e.A b ∨ B.heap.size ≤ b
 | .ret => ∃ y, (S y).2 = .ret ∧ Sub [(S y).1, ⟨l, some busy, false, none⟩] s.L ∧ ∀ b, (S y).1.A b → e.A b ∨ B.heap.size ≤ b
 | .exit id => ∃ y, (S y).2 = .exit id ∧ Sub [(S y).1, ⟨l, some busy, false, none⟩] s.L ∧ ∀ b, (S y).1.A b → e.A b ∨ B.heap.size ≤ b
 | _ => False
def beginK (C : Cx) (body : Code) (K : Exit → Sy → Prop) (l n : Nat) (ready busy : Obj) : Exit → Sy → Prop := fun x s => match x with
 | .normal => s.L[n]? = some ⟨l, some ready, false, none⟩ ∧ cx C body K ⟨s.σ, s.L.set n ⟨l, some busy, false, none⟩, s.D⟩
 | _ => False
theorem zO {l : Nat} {e0 e e' : Ent} {o o' o'' : Obj} {F : List Ent} {w w' : World} (hp : qfd e0 e l o F w) (hs : St [fun b => b = l ∨ e.W b] w w' [e', ⟨l, some o', false, none⟩]) (hA : ∀ b, e'.A b → e.A b ∨ w.heap.size ≤ b) :
 Turns w (w'.putObj l o'') (qcK e0 e l o F) (qcK e0 e' l o'' F) := by
 have hl := (Array.getElem?_eq_some_iff.1 hp.lp).1
 have hl' := hs.nth (k := 1) rfl
 have hlt' := (Array.getElem?_eq_some_iff.1 hl').1
 have hel : ¬ e'.A l := by
  have := hs.apart
  simp only [List.pairwise_cons, List.mem_singleton, forall_eq] at this
  exact fun h => (this.1 l).2 (by simp) h
 have hW : ∀ b, e'.W b → w.heap.size ≤ b ∨ e.W b := fun b hb => by
  rcases hs.ownW e' (by simp) b hb with h | h
  · exact .inl h
  · simp only [qbT, qc8, or_false] at h
    rcases h with rfl | h
    · exact absurd hb.a hel
    · exact .inr h
 have hold : ∀ k, k < w.heap.size → ¬ (e.W k ∨ k = l) → (w'.putObj l o'').heap[k]? = w.heap[k]? := fun k hk hn =>
  (World.putObj_heap_other (fun h => hn (.inr h))).trans (hs.old k hk (by simp only [qbT, qc8, or_false]; rintro (h | h); exact hn (.inr h); exact hn (.inl h)))
 have hfr : ∀ f ∈ F, ∀ k, f.A k → k < w.heap.size ∧ ¬ (e.W k ∨ k = l) := fun f hf k hk => ⟨(hp.fr f hf).lt hk, by rintro (h | rfl); exact (hp.ap f hf k).1 h hk; exact hp.fl f hf hk⟩
 refine ⟨hs.os, hs.tape, hs.output, by rw [World.putObj_size]; exact hs.size, hold, ⟨?_, World.putObj_heap_same hlt', ?_, ?_, hp.fl, hel, ?_⟩, ?_, ?_⟩
 · exact (hs.ok e' (by simp)).same fun k hk => World.putObj_heap_other fun h => hel (h ▸ hk)
 · exact fun f hf => (hp.fr f hf).same fun k hk => hold k (hfr f hf k hk).1 (hfr f hf k hk).2
 · refine fun f hf k => ⟨fun h1 h2 => ?_, fun h1 h2 => ?_⟩
   · have := hfr f hf k h2
     rcases hW k h1 with h | h
     · omega
     · exact this.2 (.inl h)
   · have := hfr f hf k h1.a
     rcases hA k h2 with h | h
     · exact (hp.ap f hf k).2 h1 h
     · omega
 · intro k hk
   rcases hA k hk with h | h
   · exact hp.e0 k h
   · exact .inr (by omega)
 · rintro k (h | rfl)
   · rcases hW k h with h | h
     · exact .inr h
     · exact .inl (.inl h)
   · exact .inl (.inr rfl)
 · rintro k ((h | rfl) | h | h)
   · rcases hW k h with h | h
     · exact .inr h
     · exact .inl (.inl (.inl h))
   · exact .inl (.inl (.inr rfl))
   · rcases hA k h with h | h
     · exact .inl (.inr (.inl h))
     · exact .inr h
   · exact .inl (.inr (.inr h))
def qcG : Code → Exit
 | .ret => .ret
 | .exit id => .exit id
 | _ => .normal
abbrev dfe (b : Nat) : Ent := ⟨b, some (.deferred (some [])), false, none⟩
def beginKP (C : Cx) (body : Code) (K : Exit → Sy → Prop) (l n : Nat) (ready busy : Obj) : Exit → Sy → Prop := fun x s => match x with
 | .normal => s.L[n]? = some ⟨l, some ready, false, none⟩ ∧ CodeP C body K ⟨s.σ, s.L.set n ⟨l, some busy, false, none⟩, s.D⟩
 | _ => False
theorem CodeP.mono {C : Cx} {c : Code} {K K' : Exit → Sy → Prop} {s : Sy} (h : ∀ e a w, Q9 C (K e) a w → Q9 C (K' e) a w) (hc : CodeP C c K s) : CodeP C c K' s := ⟨fun n a w hf hs => wpIn_mono (hc.go n a w hf hs) fun e a w hQ => h e a w hQ⟩
theorem CodeP.imp {C : Cx} {c : Code} {K K' : Exit → Sy → Prop} {s : Sy} (h : ∀ e s, K e s → K' e s) (hc : CodeP C c K s) : CodeP C c K' s := hc.mono fun e a w ⟨s, h1, h2, h3⟩ => ⟨s, h1, h2, h e s h3⟩
theorem rfx {C : Cx} (hT : TabOk C.P C.T) (hF : C.F = none) {g : Operand} {ps : Array Tmp} {assign body : Code} {K : Exit → Sy → Prop} {σ : Fr} {L : List Ent} {D : List Deferred} {gf : FuncId} {lb : Array Value} {I α β : Type} {i0 : I} {nx : I → List Value → I → Prop} {fin : I → Prop} {H : Res}
 (hcl : QM C.T gf = true) (hg : ev σ g (· = .func (.func gf) #[] lb)) (hit : Itr C.P gf lb.toList i0 nx fin H) (k : Nat) (E : I → α → Ent) (S : β → Ent × Code) (hS : ∀ y, (S y).2 = .ret ∨ ∃ id, (S y).2 = .exit id) (x0 : α) (hk : L[k]? = some (E i0 x0))
 (hH : ∀ w, St C.M C.B w L → H.p w ∧ ∀ b, H.A b → ¬ (E i0 x0).W b) (hps : ∀ i args j, nx i args j → args.length = ps.size)
 (round : ∀ l i args j x w ready busy, nx i args j → CodeP ⟨C.P, C.T, C.N, [fun b => b = l ∨ (E i x).W b], w, some l⟩ assign (beginKP ⟨C.P, C.T, C.N, [fun b => b = l ∨ (E i x).W b], w, some l⟩ body (ZQ E S l busy w (E i x) j) l L.length ready busy)
  ⟨qcR C.N ps.toList args σ, (L.map Ent.rd).set k (E i x) ++ [⟨l, some ready, false, none⟩], []⟩)
 (done : ∀ i y b0, (∀ k, (E i y).A k → (E i0 x0).A k ∨ C.B.heap.size ≤ k) → fin i → K .normal ⟨σ, L.set k (E i y) ++ [dfe b0], { target := .collected b0, args := #[] } :: D⟩)
 (stop : ∀ y b0, (∀ k, (S y).1.A k → (E i0 x0).A k ∨ C.B.heap.size ≤ k) → K (qcG (S y).2) ⟨σ, L.set k (S y).1 ++ [dfe b0], { target := .collected b0, args := #[] } :: D⟩) : CodeP C (.rangeFunc g ps assign body) K ⟨σ, L, D⟩ := by
 refine ⟨fun n a w hf hs => ?_⟩
 have hfence : C.fence = Fence.wide := by unfold Cx.fence; rw [hF]
 rw [hfence]
 have hkl : k < L.length := (List.getElem?_eq_some_iff.1 hk).1
 have hgv : a.eval g = .func (.func gf) #[] lb := hf.fit g _ hg
 obtain ⟨fn0, k1, k2, k3⟩ := Zh (zl hT hcl)
 have k4 : fn0.name ≠ "runtime.NumGoroutine" := by simpa using k2
 have eg : ∀ args w, (callFunc gf args).run C.P w = .ok (.enter gf args) w := by
  intro args w
  cases hb : fn0.body with
  | none => rw [hb] at k3; cases k3
  | some code => simp [callFunc, k1, k4, hb]
 refine wpIn_rangeFunc fun fn hfn => ?_
 obtain ⟨rec, hrec⟩ : ∃ rec : LoopState → Option Code → Loop, rec = fun st pe => { state := st, pending := pe, fn, tmps := a.tmps, params := ps, assign, body, defers := w.heap.size } := ⟨_, rfl⟩
 obtain ⟨W0, hW0⟩ : ∃ W0, W0 = w.alloc (.deferred (some [])) := ⟨_, rfl⟩
 obtain ⟨W1, hW1⟩ : ∃ W1, W1 = W0.alloc (.loop (rec .ready none)) := ⟨_, rfl⟩
 have hz0 : W0.heap.size = w.heap.size + 1 := by rw [hW0]; simp
 have hz1 : W1.heap.size = w.heap.size + 2 := by rw [hW1]; simp [hz0]
 have hs0 : St C.M C.B W0 (L ++ [dfe w.heap.size]) := by rw [hW0]; exact hs.alloc _
 have hL1 : W1.heap[w.heap.size + 1]? = some (.loop (rec .ready none)) := by rw [hW1, ← hz0]; exact heap_alloc_new W0 _
 have hs1 : St C.M C.B W1 (L ++ [dfe w.heap.size]) := by rw [hW1]; exact hs0.call (zG W0 _)
 have hk1 : (L ++ [dfe w.heap.size])[k]? = some (E i0 x0) := by rw [List.getElem?_append_left hkl]; exact hk
 obtain ⟨F, hFF⟩ : ∃ F, F = (L ++ [dfe w.heap.size]).set k dead := ⟨_, rfl⟩
 have hF1 : ∀ f ∈ F, f = dead ∨ ∃ i, i ≠ k ∧ (L ++ [dfe w.heap.size])[i]? = some f := fun f hf => by rw [hFF] at hf; exact QP hf
 have hFl : ∀ f ∈ F, ∀ j, f.A j → j < w.heap.size + 1 := fun f hf j hj => by
  rcases hF1 f hf with rfl | ⟨i, hi, hm⟩
  · simp at hj
  · have := hs0.ltA (List.mem_of_getElem? hm) hj; omega
 have hEl : ∀ j, (E i0 x0).A j → j < w.heap.size := fun j hj => hs.ltA (List.mem_of_getElem? hk) hj
 have hp0 : qfd (E i0 x0) (E i0 x0) (w.heap.size + 1) (.loop (rec .ready none)) F W1 := by
  refine ⟨hs1.ok _ (List.mem_of_getElem? hk1), hL1, fun f hf => ?_, fun f hf => ?_, fun f hf hj => ?_, fun hj => ?_, fun j hj => .inl hj⟩
  · rcases hF1 f hf with rfl | ⟨i, hi, hm⟩
    · simp
    · exact hs1.ok f (List.mem_of_getElem? hm)
  · rcases hF1 f hf with rfl | ⟨i, hi, hm⟩
    · exact (ZD _).symm
    · exact QG hs1.apart hk1 hm (fun e => hi e.symm)
  · have := hFl f hf _ hj; omega
  · have := hEl _ hj; omega
 refine ⟨w.heap.size + 1, [{ target := .collected w.heap.size, args := #[] }], W1, { target := .fn (.func gf) lb, args := #[.func (.yield (w.heap.size + 1)) #[] #[]] }, W1, gf,
  #[.func (.yield (w.heap.size + 1)) #[] #[]] ++ lb, W1, ?_, ?_, fun _ _ => trivial, ?_, fun h => (by cases h), ?_⟩
 · rw [hW1, hW0, hrec]; exact run_enterLoop_outer _ _ _ _ _
 · simp only [resolve, hgv]
   simp [go_sem]
 · simp [invoke, go_sem, eg]
 · have hcall := hit.go (w.heap.size + 1) α β (fun i x => qcK (E i0 x0) (E i x) (w.heap.size + 1) (.loop (rec .ready none)) F) (fun y => qcK (E i0 x0) (S y).1 (w.heap.size + 1) (.loop (rec .done (some (S y).2))) F) W1 x0 hp0
    (H.st w W1 (fun j hj => by
     have hjl := H.bd w (hH w hs).1 j hj
     rw [hW1, hW0, Below.heap_alloc _ _ _ (by simp; omega), Below.heap_alloc _ _ _ hjl]) (hH w hs).1)
    (fun b hb hn => by
     rcases hn with h | h
     · exact (hH w hs).2 b hb h
     · have := H.bd w (hH w hs).1 b hb; omega) ?_
   · have e1 : (Value.func (.yield (w.heap.size + 1)) #[] #[] :: lb.toList).toArray = #[.func (.yield (w.heap.size + 1)) #[] #[]] ++ lb := by apply Array.ext'; simp
     rw [e1] at hcall
     refine ((callsIn_wide (n := n - 1)).2 hcall).mono ?_
     have fin' : ∀ (e' : Ent) (st : LoopState) (pe : Option Code) (W' : World), st ≠ .busy → Turns W1 W' (qcK (E i0 x0) (E i0 x0) (w.heap.size + 1) (.loop (rec .ready none)) F) (qcK (E i0 x0) e' (w.heap.size + 1) (.loop (rec st pe)) F) →
      ∃ w4, (Instr.endLoop (w.heap.size + 1)).run C.P W' = .ok pe w4 ∧ St C.M C.B w4 (L.set k e' ++ [dfe w.heap.size]) := by
      intro e' st pe W' hst ht
      have hp := ht.ok
      refine ⟨W'.putObj (w.heap.size + 1) (.loop { rec st pe with state := .exhausted }), by have := run_endLoop (P := C.P) hp.lp (by rw [hrec]; exact hst); subst hrec; exact this, ?_⟩
      have e2 : L.set k e' ++ [dfe w.heap.size] = (L ++ [dfe w.heap.size]).set k e' := by rw [List.set_append_left _ _ hkl]
      rw [e2]
      refine hs1.upd2 hk1 (by rw [World.putObj_size]; exact ht.size) (hp.ok.same fun j hj => World.putObj_heap_other fun h => hp.el (h ▸ hj)) (fun j hj hn ho => ?_) ht.os ht.tape ht.output (fun j hj => ?_) (fun j hj => ?_)
      · have hjl : j ≠ w.heap.size + 1 := by
         rcases ho with h | ⟨f, hf', h⟩
         · have := hs.size; omega
         · have := hFl f (hFF ▸ hf') j h; omega
        refine (World.putObj_heap_other hjl).trans (ht.old j hj ?_)
        rintro (h | h)
        · exact hn h
        · exact hjl h
      · rcases ht.W j (.inl hj) with (h | rfl) | h
        · exact .inl h
        · exact absurd hj.a hp.el
        · exact .inr h
      · rcases hp.e0 j hj with h | h
        · exact .inl h
        · exact .inr (by omega)
     rintro e W' ⟨⟨v, rfl⟩, ⟨i, y, hfi, ht⟩ | ⟨y, ht⟩⟩
     · obtain ⟨w4, hr, hs4⟩ := fin' _ _ _ W' (by simp) ht
       exact ⟨none, w4, hr, ⟨⟨σ, L.set k (E i y) ++ [dfe w.heap.size], { target := .collected w.heap.size, args := #[] } :: D⟩, ⟨hf.size, congrArg (_ :: ·) hf.defers, hf.slot⟩, hs4, done i y _ (fun k hk => (ht.ok.e0 k hk).imp id fun h => by have := hs.size; omega) hfi⟩⟩
     · obtain ⟨w4, hr, hs4⟩ := fin' _ _ _ W' (by simp) ht
       refine ⟨some (S y).2, w4, hr, ?_⟩
       have hK := stop y w.heap.size (fun k hk => (ht.ok.e0 k hk).imp id fun h => by have := hs.size; omega)
       rcases hS y with h | ⟨id, h⟩
       · rw [h] at hK ⊢
         exact wpIn_ret ⟨⟨σ, L.set k (S y).1 ++ [dfe w.heap.size], { target := .collected w.heap.size, args := #[] } :: D⟩, ⟨hf.size, congrArg (_ :: ·) hf.defers, hf.slot⟩, hs4, hK⟩
       · rw [h] at hK ⊢
         exact wpIn_exit ⟨⟨σ, L.set k (S y).1 ++ [dfe w.heap.size], { target := .collected w.heap.size, args := #[] } :: D⟩, ⟨hf.size, congrArg (_ :: ·) hf.defers, hf.slot⟩, hs4, hK⟩
   · intro i args j x u hn hp m
     have hpz := hps i args j hn
     have hy := run_yield (P := C.P) (args := args.toArray) hp.lp (by rw [hrec]; simpa using hpz)
     rw [hrec] at hy
     refine ⟨fn, _, assign, body, hy, roundIn_of_wpIn hfn ?_⟩
     have e3 : ((ps.zip args.toArray).foldl (fun t (p, v) => t.setIfInBounds p v) a.tmps) = ((ps.toList.zip args).foldl (fun t (p, v) => t.setIfInBounds p v) a.tmps) := by
      rw [← Array.foldl_toList]; simp
     have hfit := qdH ps.toList args σ L ((L.map Ent.rd).set k (E i x) ++ [⟨w.heap.size + 1, some (.loop (rec .ready none)), false, none⟩]) a hf
     have hst : St [fun b => b = w.heap.size + 1 ∨ (E i x).W b] u u ((L.map Ent.rd).set k (E i x) ++ [⟨w.heap.size + 1, some (.loop (rec .ready none)), false, none⟩]) := by
      have hmem : ∀ f ∈ (L.map Ent.rd).set k (E i x), f = E i x ∨ ∃ f' ∈ F, f = f'.rd := by
       intro f hf
       rcases QP hf with rfl | ⟨i', hi, hm⟩
       · exact .inl rfl
       · right
         rw [List.getElem?_map, Option.map_eq_some_iff] at hm
         obtain ⟨f', hm, rfl⟩ := hm
         have hil := (List.getElem?_eq_some_iff.1 hm).1
         exact ⟨f', by rw [hFF]; exact List.mem_of_getElem? (i := i') (by rw [List.getElem?_set_ne (fun e => hi e.symm), List.getElem?_append_left hil]; exact hm), rfl⟩
      refine St.from u _ _ (fun f hf => ?_) ?_
      · rcases List.mem_append.1 hf with hf | hf
        · rcases hmem f hf with rfl | ⟨f', hf', rfl⟩
          · exact ⟨hp.ok, fun b hb => by simp [hb]⟩
          · exact ⟨(Ent.rdOk _ _).2 (hp.fr f' hf'), fun b hb => absurd hb (Ent.rdW _ _)⟩
        · obtain rfl : f = ⟨w.heap.size + 1, some (.loop (rec .ready none)), false, none⟩ := by simpa using hf
          exact ⟨by simpa using hp.lp, fun b hb => by simp at hb; simp [hb]⟩
      · refine List.pairwise_append.2 ⟨pw_set ?_ ?_, by simp, ?_⟩
        · rw [List.pairwise_map]
          exact List.pairwise_of_forall (fun x y b => ⟨fun h => absurd h (Ent.rdW _ _), fun h => absurd h (Ent.rdW _ _)⟩)
        · intro i' f hi hm
          rw [List.getElem?_map, Option.map_eq_some_iff] at hm
          obtain ⟨f', hm, rfl⟩ := hm
          have hil := (List.getElem?_eq_some_iff.1 hm).1
          have hf' : f' ∈ F := by rw [hFF]; exact List.mem_of_getElem? (i := i') (by rw [List.getElem?_set_ne (fun e => hi e.symm), List.getElem?_append_left hil]; exact hm)
          exact fun b => ⟨fun h1 h2 => (hp.ap f' hf' b).1 h1 ((Ent.rdA _ _).1 h2), fun h1 => absurd h1 (Ent.rdW _ _)⟩
        · intro f hf y hy
          obtain rfl : y = ⟨w.heap.size + 1, some (.loop (rec .ready none)), false, none⟩ := by simpa using hy
          rcases hmem f hf with rfl | ⟨f', hf', rfl⟩
          · exact fun b => ⟨fun h1 h2 => by simp at h2; subst h2; exact hp.el h1.a, fun h1 h2 => by simp at h1; subst h1; exact hp.el h2⟩
          · exact fun b => ⟨fun h1 => absurd h1 (Ent.rdW _ _), fun h1 h2 => by simp at h1; subst h1; exact hp.fl f' hf' ((Ent.rdA _ _).1 h2)⟩
     have hcx := round (w.heap.size + 1) i args j x u (.loop (rec .ready none)) (.loop (rec .busy none)) hn
     rw [e3]
     refine wpIn_mono (hcx.go m _ u hfit hst) ?_
     rintro e a1 w1 ⟨s1, hf1, hs1', hb⟩
     cases e with
     | normal =>
      obtain ⟨hb1, hb2⟩ := hb
      have hl1 := hs1'.nth hb1
      refine ⟨w1.putObj (w.heap.size + 1) (.loop (rec .busy none)), by have := run_beginRound (P := C.P) hl1 (by rw [hrec]); subst hrec; exact this, ?_⟩
      have hs2 := hs1'.put (o' := .loop (rec .busy none)) hb1
      refine wpIn_mono (hb2.go m a1 _ ⟨hf1.size, hf1.defers, hf1.slot⟩ hs2) ?_
      rintro e a3 w3 ⟨s3, hf3, hs3, hb3⟩
      cases e with
      | normal =>
       obtain ⟨y, hsub, hA⟩ := hb3
       have h3 := hs3.sub hsub
       have hr := run_endRound (P := C.P) none (h3.nth (k := 1) rfl)
       refine ⟨_, _, hr, .inl ⟨rfl, y, ?_⟩⟩
       have := zO (o'' := .loop (rec .ready none)) hp h3 hA
       rw [hrec] at this ⊢; exact this
      | ret =>
       obtain ⟨y, hy, hsub, hA⟩ := hb3
       have h3 := hs3.sub hsub
       have hr := run_endRound (P := C.P) (some .ret) (h3.nth (k := 1) rfl)
       refine ⟨_, _, hr, .inr ⟨rfl, y, ?_⟩⟩
       have := zO (o'' := .loop (rec .done (some .ret))) hp h3 hA
       rw [hy]
       rw [hrec] at this ⊢; exact this
      | exit id =>
       obtain ⟨y, hy, hsub, hA⟩ := hb3
       have h3 := hs3.sub hsub
       have hr := run_endRound (P := C.P) (some (.exit id)) (h3.nth (k := 1) rfl)
       refine ⟨_, _, hr, .inr ⟨rfl, y, ?_⟩⟩
       have := zO (o'' := .loop (rec .done (some (.exit id)))) hp h3 hA
       rw [hy]
       rw [hrec] at this ⊢; exact this
      | goto t => exact hb3.elim
      | panic ch => exact hb3.elim
      | outgrown => exact hb3.elim
     | _ => exact hb.elim
theorem rf' {C : Cx} (hT : TabOk C.P C.T) (hF : C.F = none) {g : Operand} {ps : Array Tmp} {assign body : Code} {K : Exit → Sy → Prop} {σ : Fr} {L : List Ent} {D : List Deferred} {gf : FuncId} {lb : Array Value} {I α β : Type} {i0 : I} {nx : I → List Value → I → Prop} {fin : I → Prop} {H : Res}
 (hcl : QM C.T gf = true) (hg : ev σ g (· = .func (.func gf) #[] lb)) (hit : Itr C.P gf lb.toList i0 nx fin H) (k : Nat) (E : I → α → Ent) (S : β → Ent × Code) (hS : ∀ y, (S y).2 = .ret ∨ ∃ id, (S y).2 = .exit id) (x0 : α) (hk : L[k]? = some (E i0 x0))
 (hH : ∀ w, St C.M C.B w L → H.p w ∧ ∀ b, H.A b → ¬ (E i0 x0).W b) (hps : ∀ i args j, nx i args j → args.length = ps.size)
 (round : ∀ l i args j x w ready busy, nx i args j → CodeP ⟨C.P, C.T, C.N, [fun b => b = l ∨ (E i x).W b], w, some l⟩ assign (beginKP ⟨C.P, C.T, C.N, [fun b => b = l ∨ (E i x).W b], w, some l⟩ body (ZQ E S l busy w (E i x) j) l L.length ready busy)
  ⟨qcR C.N ps.toList args σ, (L.map Ent.rd).set k (E i x) ++ [⟨l, some ready, false, none⟩], []⟩)
 (done : ∀ i y b0, fin i → K .normal ⟨σ, L.set k (E i y) ++ [dfe b0], { target := .collected b0, args := #[] } :: D⟩)
 (stop : ∀ y b0, K (qcG (S y).2) ⟨σ, L.set k (S y).1 ++ [dfe b0], { target := .collected b0, args := #[] } :: D⟩) : CodeP C (.rangeFunc g ps assign body) K ⟨σ, L, D⟩ :=
 rfx hT hF hcl hg hit k E S hS x0 hk hH hps round (fun i y b0 _ => done i y b0) (fun y b0 _ => stop y b0)
theorem rf {C : Cx} (hT : TabOk C.P C.T) (hF : C.F = none) {g : Operand} {ps : Array Tmp} {assign body : Code} {K : Exit → Sy → Prop} {σ : Fr} {L : List Ent} {D : List Deferred} {gf : FuncId} {lb : Array Value} {I α β : Type} {i0 : I} {nx : I → List Value → I → Prop} {fin : I → Prop} {H : Res}
 (hcl : QM C.T gf = true) (hg : ev σ g (· = .func (.func gf) #[] lb)) (hit : Itr C.P gf lb.toList i0 nx fin H) (k : Nat) (E : I → α → Ent) (S : β → Ent × Code) (hS : ∀ y, (S y).2 = .ret ∨ ∃ id, (S y).2 = .exit id) (x0 : α) (hk : L[k]? = some (E i0 x0))
 (hH : ∀ w, St C.M C.B w L → H.p w ∧ ∀ b, H.A b → ¬ (E i0 x0).W b) (hps : ∀ i args j, nx i args j → args.length = ps.size)
 (round : ∀ l i args j x w ready busy, nx i args j → cx ⟨C.P, C.T, C.N, [fun b => b = l ∨ (E i x).W b], w, some l⟩ assign (beginK ⟨C.P, C.T, C.N, [fun b => b = l ∨ (E i x).W b], w, some l⟩ body (ZQ E S l busy w (E i x) j) l L.length ready busy)
  ⟨qcR C.N ps.toList args σ, (L.map Ent.rd).set k (E i x) ++ [⟨l, some ready, false, none⟩], []⟩)
 (done : ∀ i y b0, fin i → K .normal ⟨σ, L.set k (E i y) ++ [dfe b0], { target := .collected b0, args := #[] } :: D⟩)
 (stop : ∀ y b0, K (qcG (S y).2) ⟨σ, L.set k (S y).1 ++ [dfe b0], { target := .collected b0, args := #[] } :: D⟩) : CodeP C (.rangeFunc g ps assign body) K ⟨σ, L, D⟩ := by
 refine rf' hT hF hcl hg hit k E S hS x0 hk hH hps (fun l i args j x w ready busy hn => ?_) done stop
 refine (ZO (C := ⟨C.P, C.T, C.N, [fun b => b = l ∨ (E i x).W b], w, some l⟩) hT assign _ _ (round l i args j x w ready busy hn)).imp fun e s h => ?_
 cases e with
 | normal => exact ⟨h.1, ZO (C := ⟨C.P, C.T, C.N, [fun b => b = l ∨ (E i x).W b], w, some l⟩) hT body _ _ h.2⟩
 | _ => exact h.elim
end
section
open Go Go.RowKit
def qH (es : List Ent) : Res where
 w k := ∃ e ∈ es, e.W k
 r k := ∃ e ∈ es, e.A k
 p u := (∀ e ∈ es, e.Ok u) ∧ es.Pairwise Apart
 st u v h := fun ⟨h1, h2⟩ => ⟨fun e he => (h1 e he).same fun k hk => h k (.inr ⟨e, he, hk⟩), h2⟩
 bd u := fun ⟨h1, h2⟩ k hk => by
  rcases hk with ⟨e, he, hk⟩ | ⟨e, he, hk⟩
  · exact (h1 e he).lt hk.a
  · exact (h1 e he).lt hk
theorem Z6 (es : List Ent) (k : Nat) : (rs (qH es)).W k ↔ ∃ e ∈ es, e.W k := by simp [qH]
theorem Z7 (es : List Ent) (k : Nat) : (rs (qH es)).A k ↔ ∃ e ∈ es, e.A k := by
 simp only [rsA, qH]
 exact ⟨fun h => h.elim (fun ⟨e, he, h⟩ => ⟨e, he, h.a⟩) id, .inr⟩
theorem qar (x : Ent) (es : List Ent) : Apart x (rs (qH es)) ↔ ∀ e ∈ es, Apart x e := by
 constructor
 · exact fun h e he k => ⟨fun h1 h2 => (h k).1 h1 ((Z7 es k).2 ⟨e, he, h2⟩), fun h1 h2 => (h k).2 ((Z6 es k).2 ⟨e, he, h1⟩) h2⟩
 · exact fun h k => ⟨fun h1 h2 => by obtain ⟨e, he, h2⟩ := (Z7 es k).1 h2; exact (h e he k).1 h1 h2, fun h1 h2 => by obtain ⟨e, he, h1⟩ := (Z6 es k).1 h1; exact (h e he k).2 h1 h2⟩
section
variable {M : Bks} {B w : World} {X Y es : List Ent}
theorem St.pack (h : St M B w (X ++ es ++ Y)) : St M B w (X ++ [rs (qH es)] ++ Y) := by
 have hp := h.apart
 rw [List.append_assoc, List.pairwise_append, List.pairwise_append] at hp
 refine ⟨h.os, h.tape, h.output, h.size, h.old, ?_, ?_, ?_⟩
 · intro e he
   simp only [List.mem_append, List.mem_singleton] at he
   rcases he with (he | rfl) | he
   · exact h.ok e (by simp [he])
   · exact (qc0 _ _).2 ⟨fun e he => h.ok e (by simp [he]), hp.2.1.1⟩
   · exact h.ok e (by simp [he])
 · intro e he k hk
   simp only [List.mem_append, List.mem_singleton] at he
   rcases he with (he | rfl) | he
   · exact h.ownW e (by simp [he]) k hk
   · obtain ⟨e, he, hk⟩ := (Z6 es k).1 hk; exact h.ownW e (by simp [he]) k hk
   · exact h.ownW e (by simp [he]) k hk
 · rw [List.append_assoc, List.pairwise_append, List.pairwise_append]
   refine ⟨hp.1, ⟨by simp, hp.2.1.2.1, ?_⟩, ?_⟩
   · intro a ha b hb
     obtain rfl : a = _ := by simpa using ha
     exact ((qar b es).2 fun e he => (hp.2.1.2.2 e he b hb).symm).symm
   · intro a ha b hb
     simp only [List.mem_append, List.mem_singleton] at hb
     rcases hb with rfl | hb
     · exact (qar a es).2 fun e he => hp.2.2 a ha e (by simp [he])
     · exact hp.2.2 a ha b (by simp [hb])
theorem St.unpack (h : St M B w (X ++ [rs (qH es)] ++ Y)) : St M B w (X ++ es ++ Y) := by
 have hp := h.apart
 rw [List.append_assoc, List.pairwise_append, List.pairwise_append] at hp
 have hm := (qc0 _ _).1 (h.ok (rs (qH es)) (by simp))
 refine ⟨h.os, h.tape, h.output, h.size, h.old, ?_, ?_, ?_⟩
 · intro e he
   simp only [List.mem_append] at he
   rcases he with (he | he) | he
   · exact h.ok e (by simp [he])
   · exact hm.1 e he
   · exact h.ok e (by simp [he])
 · intro e he k hk
   simp only [List.mem_append] at he
   rcases he with (he | he) | he
   · exact h.ownW e (by simp [he]) k hk
   · exact h.ownW (rs (qH es)) (by simp) k ((Z6 es k).2 ⟨e, he, hk⟩)
   · exact h.ownW e (by simp [he]) k hk
 · rw [List.append_assoc, List.pairwise_append, List.pairwise_append]
   refine ⟨hp.1, ⟨hm.2, hp.2.1.2.1, ?_⟩, ?_⟩
   · intro a ha b hb
     exact ((qar b es).1 (hp.2.1.2.2 _ (by simp) b hb).symm a ha).symm
   · intro a ha b hb
     simp only [List.mem_append] at hb
     rcases hb with hb | hb
     · exact (qar a es).1 (hp.2.2 a ha _ (by simp)) b hb
     · exact hp.2.2 a ha b (by simp [hb])
theorem St.perm {L L' : List Ent} (h : St M B w L) (hp : L'.Perm L) : St M B w L' :=
 ⟨h.os, h.tape, h.output, h.size, h.old, fun e he => h.ok e (hp.mem_iff.1 he), fun e he => h.ownW e (hp.mem_iff.1 he), (hp.pairwise_iff (fun {a b} h => Apart.symm h)).2 h.apart⟩
theorem St.pad {L : List Ent} (h : St M B w L) (n : Nat) : St M B w (List.replicate n dead ++ L) := by
 induction n with
 | zero => exact h
 | succ n ih => exact ih.deads.perm (by rw [List.replicate_succ, List.cons_append]; exact (List.perm_append_singleton _ _).symm)
theorem Sub.padL (n : Nat) (L : List Ent) : Sub L (List.replicate n Sx.dead ++ L) := by
 induction n with
 | zero => exact Sub.refl L
 | succ n ih => exact .drop ih
end
theorem CodeP.from {C : Cx} {c : Code} {K : Exit → Sy → Prop} {σ : Fr} {L L' : List Ent} {D : List Deferred} (h : ∀ w, St C.M C.B w L → St C.M C.B w L') (hc : CodeP C c K ⟨σ, L', D⟩) : CodeP C c K ⟨σ, L, D⟩ := ⟨fun n a w hf hs => hc.go n a w ⟨hf.size, hf.defers, hf.slot⟩ (h w hs)⟩
def roundM {I α β : Type} (E : I → α → List Ent) (S : β → List Ent × Code) (l : Nat) (busy : Obj) (B : World) (es : List Ent) (j : I) : Exit → Sy → Prop := fun x s => match x with
 | .normal => ∃ y, Sub (E j y ++ [⟨l, some busy, false, none⟩]) s.L ∧ ∀ e ∈ E j y, ∀ b, e.A b → (∃ f ∈ es, f.A b) ∨ B.heap.size ≤ b
 | .ret => ∃ y, (S y).2 = .ret ∧ Sub ((S y).1 ++ [⟨l, some busy, false, none⟩]) s.L ∧ ∀ e ∈ (S y).1, ∀ b, e.A b → (∃ f ∈ es, f.A b) ∨ B.heap.size ≤ b
 | .exit id => ∃ y, (S y).2 = .exit id ∧ Sub ((S y).1 ++ [⟨l, some busy, false, none⟩]) s.L ∧ ∀ e ∈ (S y).1, ∀ b, e.A b → (∃ f ∈ es, f.A b) ∨ B.heap.size ≤ b
 | _ => False
theorem qcw {C : Cx} {a : Act} {w : World} {s : Sy} {es : List Ent} {e : Ent} {k : Exit → Sy → Prop} {x : Exit} (hf : Fits C.N s a) (hs : St C.M C.B w s.L) (hb : Sub (es ++ [e]) s.L) (h : ∀ s', s'.L = [rs (qH es), e] → k x s') : Q9 C (k x) a w :=
 ⟨⟨s.σ, [rs (qH es), e], s.D⟩, ⟨hf.size, hf.defers, hf.slot⟩, (show St C.M C.B w ([] ++ es ++ [e]) from hs.sub hb).pack, h _ rfl⟩
theorem qdA {C : Cx} {I α β : Type} {E : I → α → List Ent} {S : β → List Ent × Code} {l : Nat} {busy : Obj} {es : List Ent} {j : I} (x : Exit) (a : Act) (w : World) (h : Q9 C (roundM E S l busy C.B es j x) a w) : Q9 C (ZQ (fun i y => rs (qH (E i y))) (fun y => (rs (qH (S y).1), (S y).2)) l busy C.B (rs (qH es)) j x) a w := by
 obtain ⟨s, hf, hs, hr⟩ := h
 have hA : ∀ e1 : List Ent, (∀ e ∈ e1, ∀ b, e.A b → (∃ f ∈ es, f.A b) ∨ C.B.heap.size ≤ b) → ∀ b, (rs (qH e1)).A b → (rs (qH es)).A b ∨ C.B.heap.size ≤ b := by
  intro e1 h1 b hb
  obtain ⟨e, he, hb⟩ := (Z7 _ _).1 hb
  exact (h1 e he b hb).imp (Z7 _ _).2 id
 cases x with
 | normal => obtain ⟨y, h1, h2⟩ := hr; exact qcw (k := ZQ (fun i y => rs (qH (E i y))) (fun y => (rs (qH (S y).1), (S y).2)) l busy C.B (rs (qH es)) j) hf hs h1 fun s' e => ⟨y, by rw [e]; exact .cons (.cons .nil), hA _ h2⟩
 | ret => obtain ⟨y, h0, h1, h2⟩ := hr; exact qcw (k := ZQ (fun i y => rs (qH (E i y))) (fun y => (rs (qH (S y).1), (S y).2)) l busy C.B (rs (qH es)) j) hf hs h1 fun s' e => ⟨y, h0, by rw [e]; exact .cons (.cons .nil), hA _ h2⟩
 | exit id => obtain ⟨y, h0, h1, h2⟩ := hr; exact qcw (k := ZQ (fun i y => rs (qH (E i y))) (fun y => (rs (qH (S y).1), (S y).2)) l busy C.B (rs (qH es)) j) hf hs h1 fun s' e => ⟨y, h0, by rw [e]; exact .cons (.cons .nil), hA _ h2⟩
 | _ => exact hr.elim
theorem rfm {C : Cx} (hT : TabOk C.P C.T) (hF : C.F = none) {g : Operand} {ps : Array Tmp} {assign body : Code} {K : Exit → Sy → Prop} {σ : Fr} {L0 L : List Ent} {D : List Deferred} {gf : FuncId} {lb : Array Value} {I α β : Type} {i0 : I} {nx : I → List Value → I → Prop} {fin : I → Prop} {H : Res}
 (hcl : QM C.T gf = true) (hg : ev σ g (· = .func (.func gf) #[] lb)) (hit : Itr C.P gf lb.toList i0 nx fin H) (E : I → α → List Ent) (S : β → List Ent × Code) (hS : ∀ y, (S y).2 = .ret ∨ ∃ id, (S y).2 = .exit id) (x0 : α) (hL : (L0 ++ E i0 x0).Perm L)
 (hH : ∀ w, St C.M C.B w (L0 ++ E i0 x0) → H.p w ∧ ∀ b, H.A b → ∀ e ∈ E i0 x0, ¬ e.W b) (hps : ∀ i args j, nx i args j → args.length = ps.size)
 (round : ∀ l i args j x w ready busy, nx i args j → cx ⟨C.P, C.T, C.N, [fun b => b = l ∨ ∃ e ∈ E i x, e.W b], w, some l⟩ assign (beginK ⟨C.P, C.T, C.N, [fun b => b = l ∨ ∃ e ∈ E i x, e.W b], w, some l⟩ body (roundM E S l busy w (E i x) j) l (L0.length + (E i x).length) ready busy)
  ⟨qcR C.N ps.toList args σ, L0.map Ent.rd ++ E i x ++ [⟨l, some ready, false, none⟩], []⟩)
 (done : ∀ i y b0, fin i → K .normal ⟨σ, L0 ++ E i y ++ [dfe b0], { target := .collected b0, args := #[] } :: D⟩)
 (stop : ∀ y b0, K (qcG (S y).2) ⟨σ, L0 ++ (S y).1 ++ [dfe b0], { target := .collected b0, args := #[] } :: D⟩) : CodeP C (.rangeFunc g ps assign body) K ⟨σ, L, D⟩ := by
 refine CodeP.from (L' := L0 ++ [rs (qH (E i0 x0))]) (fun w hs => by simpa using St.pack (Y := []) (by simpa using hs.perm hL)) ?_
 have hset : ∀ e e' : Ent, (L0 ++ [e]).set L0.length e' = L0 ++ [e'] := fun e e' => by simp
 refine CodeP.mono (K := fun x s => ∃ L', (∀ w, St C.M C.B w s.L → St C.M C.B w L') ∧ K x ⟨s.σ, L', s.D⟩) (fun x a w ⟨s, h1, h2, L', h3, h4⟩ => ⟨⟨s.σ, L', s.D⟩, ⟨h1.size, h1.defers, h1.slot⟩, h3 w h2, h4⟩) ?_
 refine rf' hT hF hcl hg hit L0.length (fun i x => rs (qH (E i x))) (fun y => (rs (qH (S y).1), (S y).2)) hS x0 (by simp) (fun w hs => ?_) hps (fun l i args j x w ready busy hn => ?_) (fun i y b0 hf => ?_) (fun y b0 => ?_)
 · have h1 := hH w (by simpa using St.unpack (Y := []) (by simpa using hs))
   exact ⟨h1.1, fun b hb hw => by obtain ⟨e, he, hw⟩ := (Z6 _ _).1 hw; exact h1.2 b hb e he hw⟩
 · have hM : (fun b => b = l ∨ (rs (qH (E i x))).W b) = fun b => b = l ∨ ∃ e ∈ E i x, e.W b := by funext b; rw [Z6]
   rw [hM]
   have h1 := ZO (C := ⟨C.P, C.T, C.N, [fun b => b = l ∨ ∃ e ∈ E i x, e.W b], w, some l⟩) hT assign _ _ (round l i args j x w ready busy hn)
   refine CodeP.from (L' := L0.map Ent.rd ++ E i x ++ [⟨l, some ready, false, none⟩]) (fun w' hs => ?_) (h1.mono fun e a w' h => ?_)
   · have e1 : (List.map Ent.rd (L0 ++ [rs (qH (E i0 x0))])).set L0.length (rs (qH (E i x))) ++ [⟨l, some ready, false, none⟩] = L0.map Ent.rd ++ [rs (qH (E i x))] ++ [⟨l, some ready, false, none⟩] := by
      rw [List.map_append]; simp [List.set_append_right]
     rw [e1] at hs
     exact hs.unpack
   · obtain ⟨s, hf, hs, h2⟩ := h
     cases e with
     | normal =>
      obtain ⟨h3, h4⟩ := h2
      have h5 := (ZO (C := ⟨C.P, C.T, C.N, [fun b => b = l ∨ ∃ e ∈ E i x, e.W b], w, some l⟩) hT body _ _ h4).mono fun e a w' h => qdA (C := ⟨C.P, C.T, C.N, [fun b => b = l ∨ ∃ e ∈ E i x, e.W b], w, some l⟩) e a w' h
      obtain ⟨hlt, hget⟩ := List.getElem?_eq_some_iff.1 h3
      have hsp : s.L = s.L.take (L0.length + (E i x).length) ++ ⟨l, some ready, false, none⟩ :: s.L.drop (L0.length + (E i x).length + 1) := by
       rw [← hget]; simp
      have hset2 : s.L.set (L0.length + (E i x).length) ⟨l, some busy, false, none⟩ = s.L.take (L0.length + (E i x).length) ++ ⟨l, some busy, false, none⟩ :: s.L.drop (L0.length + (E i x).length + 1) := List.set_eq_take_append_cons_drop.trans (if_pos hlt)
      rw [hset2] at h5
      generalize s.L.take (L0.length + (E i x).length) = A at *
      generalize s.L.drop (L0.length + (E i x).length + 1) = Z at *
      refine ⟨⟨s.σ, List.replicate (L0.length + 1) dead ++ ⟨l, some ready, false, none⟩ :: (A ++ Z), s.D⟩, ⟨hf.size, hf.defers, hf.slot⟩, ?_, ?_, ?_⟩
      · rw [hsp] at hs
        exact (hs.perm List.perm_middle.symm).pad _
      · simp
      · refine CodeP.from (L' := A ++ ⟨l, some busy, false, none⟩ :: Z) (fun w2 hs2 => ?_) h5
        have e2 : (List.replicate (L0.length + 1) dead ++ (⟨l, some ready, false, none⟩ : Ent) :: (A ++ Z)).set (L0 ++ [rs (qH (E i0 x0))]).length ⟨l, some busy, false, none⟩ = List.replicate (L0.length + 1) dead ++ (⟨l, some busy, false, none⟩ : Ent) :: (A ++ Z) := by
         rw [List.set_append_right _ _ (by simp)]; simp
        rw [e2] at hs2
        exact (hs2.sub (Sub.padL _ _)).perm List.perm_middle
     | _ => exact h2.elim
 · refine ⟨L0 ++ E i y ++ [dfe b0], fun w hs => ?_, done i y b0 hf⟩
   rw [hset] at hs
   exact hs.unpack
 · refine ⟨L0 ++ (S y).1 ++ [dfe b0], fun w hs => ?_, stop y b0⟩
   rw [hset] at hs
   exact hs.unpack
theorem apI {C : Cx} {L : List Ent} (k : Nat) (hT : TabOk C.P C.T) {t tx ty e z by' cap b : Nat} {zv : Value} {cs : Array Bool} {xs news j : List Value} {n m : Nat} {x : Value} {next : Value → List Ent → Prop}
 (ht : look C.T.rows t fun y _ => y = .sl e z) (hi : (C.P.info? e).map (fun i => (i.zero, i.size, i.bytes)) = some (some zv, z, by'))
 (hk : L[k]? = some (cl b (xs ++ j).toArray e)) (hn : xs.length = n * z) (hcap : (xs ++ j).length = cap * z) (hroom : n + m ≤ cap) (hsrc : ∀ w, St C.M C.B w L → Src C.P z tx x m news w)
 (go : next (.slice (some ⟨b, 0, none⟩) (n + m) cap) (L.set k (cl b (xs ++ news ++ j.drop news.length).toArray e))) : BiP C .append #[t, tx] ty cs [.slice (some ⟨b, 0, none⟩) n cap, x] L next := by
 refine apRun fun w hs => ?_
 obtain ⟨i0, hi0, hz0', rfl, hz2⟩ := Qg hi
 have hsr := hsrc w hs
 have hlen : 0 + n * i0.size + news.length ≤ (xs ++ j).toArray.size := by
  rw [hsr.newsLen, List.size_toArray, hcap, Nat.zero_add, ← Nat.add_mul]; exact Nat.mul_le_mul_right _ hroom
 have hrun := run_append_room_src w t tx ty e i0 (slOf hT ht) hi0 b 0 n cap x m news hsr hroom (fun q hq => by
  rw [hs.cell hk]; have : 0 + n * i0.size + q < (xs ++ j).toArray.size := by omega
  simp
  simpa using this) (fun q hq => frozen_of_row w b _ _ e (hs.nth hk))
 refine ⟨_, _, _, hrun, ?_, go⟩
 have := hs.setCells hk (0 + n * i0.size) news hlen
 have e2 : ((xs ++ j).toArray.toList.take (0 + n * i0.size) ++ news ++ (xs ++ j).toArray.toList.drop (0 + n * i0.size + news.length)) = xs ++ news ++ j.drop news.length := by
  rw [Nat.zero_add, ← hn]; simp
 rw [e2] at this
 exact this
theorem apI1 {C : Cx} {L : List Ent} (k kn : Nat) (hT : TabOk C.P C.T) {t ty e by' cap b bn : Nat} {zv v : Value} {cs : Array Bool} {xs j : List Value} {n : Nat} {next : Value → List Ent → Prop}
 (ht : look C.T.rows t fun y _ => y = .sl e 1) (hi : (C.P.info? e).map (fun i => (i.zero, i.size, i.bytes)) = some (some zv, 1, by'))
 (hk : L[k]? = some (cl b (xs ++ j).toArray e)) (hn : xs.length = n) (hcap : (xs ++ j).length = cap) (hroom : n + 1 ≤ cap) (hkn : L[kn]? = some (cl bn #[v] e)) (h1 : v.oneCell' = true)
 (go : next (.slice (some ⟨b, 0, none⟩) (n + 1) cap) (L.set k (cl b (xs ++ [v] ++ j.drop 1).toArray e))) : BiP C .append #[t, t] ty cs [.slice (some ⟨b, 0, none⟩) n cap, .slice (some ⟨bn, 0, none⟩) 1 1] L next :=
 apI (news := [v]) k hT ht hi hk (by omega) (by omega) hroom (srcE ht hT (src kn hkn rfl) rfl (by simpa using h1)) go
theorem ap1 {C : Cx} {L : List Ent} (k kn : Nat) (hT : TabOk C.P C.T) {t ty e by' bn : Nat} {zv v : Value} {cs : Array Bool} {r : Sx.Own} {xs : List Value} {n : Nat} {next : Value → List Ent → Prop}
 (ht : look C.T.rows t fun y _ => y = .sl e 1) (hi : (C.P.info? e).map (fun i => (i.zero, i.size, i.bytes)) = some (some zv, 1, by')) (hz : zv.cells.size = 1)
 (hk : L[k]? = some (se r xs e)) (hR : Rw 1 n r xs) (hkn : L[kn]? = some (cl bn #[v] e)) (h1 : v.oneCell' = true) (hby : (n + 1 + (n + 1) / 4 + 192) * by' ≤ 281474976710656) (h63 : n + 1 ≤ maxLen)
 (go : ∀ r', Rw 1 (n + 1) r' (xs ++ [v]) → next (sv r' (n + 1)) (L.set k (se r' (xs ++ [v]) e))) : BiP C .append #[t, t] ty cs [sv r n, .slice (some ⟨bn, 0, none⟩) 1 1] L next :=
 ap (news := [v]) (m := 1) k hT ht hi hz hk hR (srcE ht hT (src kn hkn rfl) rfl (by simpa using h1)) hby h63 go
theorem made1 {P : Program} {t e : TypeId} {zv : Value} {by' : Nat} (w : World) (ht : P.underlying t = some (.slice e)) (hi : (P.info? e).map (fun i => (i.zero, i.size, i.bytes)) = some (some zv, 1, by')) (hzv : zv.cells = #[zv]) (l c : Nat) (hlc : l ≤ c) (hc : c * by' ≤ 100000000) (hc2 : c ≤ 100000000) :
 (Instr.makeSlice t (.int .i64 (l : Int)) (.int .i64 (c : Int))).run P w = .ok (.slice (some ⟨w.heap.size, 0, none⟩) l c) (w.alloc (.cells (List.replicate c zv).toArray e)) := by
 obtain ⟨i, hi, hz, hs, hb⟩ := Qg hi
 have h := run_make (P := P) w t e i _ ht hi hz .i64 .i64 (l : Int) (c : Int) (by omega) (by omega) (by rw [hb, Int.mul_comm, ← Int.natCast_mul, Nat.mul_comm]; first | omega | (rw [Nat.mul_comm]; omega)) (by omega)
 rw [hs] at h
 simp only [Int.toNat_natCast, Nat.mul_one] at h
 rw [h]
 congr 2
 simp only [madeCells, hzv]
 congr 1
 apply Array.ext
 · simp
 · intro i h1 h2
   simp [Nat.mod_one]
theorem St.reads {w : World} {L : List Ent} (h : ∀ e ∈ L, e.Ok w ∧ ∀ k, ¬ e.W k) : St [] w w L :=
 St.from w [] L (fun e he => ⟨(h e he).1, fun k hk => absurd hk ((h e he).2 k)⟩) (List.pairwise_of_forall_mem_list fun a ha b hb k => ⟨fun h1 => absurd h1 ((h a ha).2 k), fun h1 => absurd h1 ((h b hb).2 k)⟩)
theorem s1e (k : Nat) (e : Array Value) {C : Cx} {L : List Ent} {b o : Nat} {c : Array Value} {t t' : TypeId} {v : Value} {next : List Ent → Prop} (hk : L[k]? = some (cl b c t')) (ho : o < c.size) (he : c.setIfInBounds o v = e) (go : next (L.set k (cl b e t')))
 (h1 : zn C.P t 1 = true := by kernel_rfl) (h2 : v.oneCell' = true := by rfl) (h3 : v.cells = #[v] := by rfl) : StP C t L b o v next := by
 subst he; exact s1 k hk ho go h1 h2 h3
theorem ce {C : Cx} {L : List Ent} {α : Type} {Φ : α → Prop} {v : α → Value} {g : FuncId} {vs : List Value} {next : Value → List Ent → Prop}
 (h : ∀ w, St C.M C.B w L → Calls C.P g vs.toArray w fun e w' => ∃ x, Φ x ∧ e = .returned (v x) ∧ Below w.heap.size w w') (go : ∀ x, Φ x → next (v x) L) : zJ C g vs L next :=
 cg h fun w e w' hs ⟨x, hx, he, hb⟩ => ⟨_, _, he, hs.call hb, go x hx⟩
theorem cut {C : Cx} {id : Nat} {ops : Array Oper} {K : Exit → Sy → Prop} {s : Sy} {α : Type} (J : α → Prop) (f : α → Sy) (h : qb8 C id ops (fun e s' => match e with | .normal => ∃ x, J x ∧ Le (f x) s' | _ => False) s) (go : ∀ x, J x → K .normal (f x)) : qb8 C id ops K s := by
 refine ⟨fun n a w hf hs => wpIn_mono (h.go n a w hf hs) fun e a' w' hq => ?_⟩
 obtain ⟨s', hf', hs', hk⟩ := hq
 cases e with
 | normal => obtain ⟨x, hx, hle⟩ := hk; exact ⟨f x, hf'.le hle, hs'.sub hle.l, go x hx⟩
 | _ => exact hk.elim
theorem cutp {C : Cx} {id : Nat} {ops : Array Oper} {K : Exit → Sy → Prop} {s : Sy} {α : Type} (J : α → Prop) (f : α → Sy)
 (h : qb8 C id ops (fun e s' => match e with | .normal => ∃ x, J x ∧ leF (f x).σ s'.σ ∧ (∃ L', (f x).L.Perm L' ∧ Sub L' s'.L) ∧ (f x).D = s'.D | _ => False) s) (go : ∀ x, J x → K .normal (f x)) : qb8 C id ops K s := by
 refine ⟨fun n a w hf hs => wpIn_mono (h.go n a w hf hs) fun e a' w' hq => ?_⟩
 obtain ⟨s', hf', hs', hk⟩ := hq
 cases e with
 | normal => obtain ⟨x, hx, hle, ⟨L', hp, hsub⟩, hd⟩ := hk; exact ⟨f x, ⟨hf'.size, hf'.defers.trans hd.symm, fun i v hv => hf'.slot i v (leF_get hle i v hv)⟩, (hs'.sub hsub).perm hp, go x hx⟩
 | _ => exact hk.elim
end
end Go.Sx
namespace Go.Proofs.YtbgefoamhdgnaaaGreatDoor
section
open Go.RowKit Go.Sx
theorem biMin {C : Cx} {L : List Ent} {ts : Array TypeId} {t : TypeId} {cs : Array Bool} {k : IntKind} {x y : Int} {next : Value → List Ent → Prop} (go : next (.int k (min x y)) L) : BiP C .min ts t cs [.int k x, .int k y] L next := by
 have e : (if y < x then y else x) = min x y := by split <;> omega
 rw [← e] at go
 exact biV (m := Builtin.min_ ts t #[.int k x, .int k y]) rfl (fun w _ => run_min_int2 w ts t k k x y) go
theorem qdl (x : Wd) (n : Nat) (hn : n ≤ 64) (i : Int) (hi : i = n) : trn (ux x) i = ux (rot x n) := by
 unfold trn rot
 rw [Zs x n hn i hi, qdj x (64 - n) (by omega) (64 - i) (by omega), qbj]
def chV (sb so len n i : Nat) : Value := .slice (some ⟨sb, so + i, none⟩) (min n (len - i)) (min n (len - i))
def chNx (sb so len n : Nat) (i : Nat) (args : List Value) (j : Nat) : Prop := i < len ∧ i % n = 0 ∧ args = [chV sb so len n i] ∧ j = i + n
def chH (b2 b3 sb so len cap n : Nat) : Res where
 w _ := False
 r k := k = b2 ∨ k = b3
 p u := u.heap[b2]? = some (.cells #[.slice (some ⟨sb, so, none⟩) len cap] 48 (0, 0)) ∧ u.heap[b3]? = some (.cells #[.int .i64 n] 3 (0, 0))
 st u v h := fun ⟨h1, h2⟩ => ⟨(h _ (.inr (.inl rfl))).trans h1, (h _ (.inr (.inr rfl))).trans h2⟩
 bd u := fun ⟨h1, h2⟩ k hk => by
  rcases hk with hk | rfl | rfl
  · exact hk.elim
  · exact (Array.getElem?_eq_some_iff.1 h1).1
  · exact (Array.getElem?_eq_some_iff.1 h2).1
theorem qa9 (b2 b3 sb so len cap n : Nat) (hn : 0 < n) (hl : len ≤ 1000000000) (hn2 : n ≤ 1000000) (hc : len ≤ cap) :
 Itr Tryz.prog 231 [ptr b2, ptr b3] 0 (chNx sb so len n) (fun i => len ≤ i ∧ i < len + n ∧ i % n = 0) (chH b2 b3 sb so len cap n) := by
 refine ⟨fun l α β R S W x0 hR hH hd hround => ?_⟩
 have hst : St [fun k => (R 0 x0).w k] W W [rs (R 0 x0), cr b2 #[.slice (some ⟨sb, so, none⟩) len cap] 48, cr b3 #[.int .i64 n] 3] := by
  refine St.from W _ _ (fun e he => ?_) ?_
  · simp only [List.mem_cons, List.not_mem_nil, or_false] at he
    rcases he with rfl | rfl | rfl
    · exact ⟨by simpa using hR, fun k hk => by simpa using hk⟩
    · exact ⟨by simpa using hH.1, fun k hk => by simp at hk⟩
    · exact ⟨by simpa using hH.2, fun k hk => by simp at hk⟩
  · refine .cons (fun y hy => ?_) (.cons (fun y hy => ?_) (by simp))
    · simp only [List.mem_cons, List.not_mem_nil, or_false] at hy
      rcases hy with rfl | rfl
      · exact fun k => ⟨fun h1 h2 => by simp at h1 h2; subst h2; exact hd _ (.inr (.inl rfl)) h1, fun h1 => by simp at h1⟩
      · exact fun k => ⟨fun h1 h2 => by simp at h1 h2; subst h2; exact hd _ (.inr (.inr rfl)) h1, fun h1 => by simp at h1⟩
    · obtain rfl : y = cr b3 #[.int .i64 n] 3 := by simpa using hy
      exact fun k => ⟨fun h1 => by simp at h1, fun h1 => by simp at h1⟩
 refine (enter qc Tryz.func231 rfl Tryz.ntmps231 rfl hst (R := fun v w' => (∃ i y, (len ≤ i ∧ i < len + n ∧ i % n = 0) ∧ Turns W w' (R 0 x0) (R i y)) ∨ ∃ y, Turns W w' (R 0 x0) (S y)) ?_).mono (fun e w' ⟨v, he, h⟩ => ⟨⟨v, he⟩, h⟩)
 have fin' : ∀ (r : Res) (L : List Ent) (w' : World), St [fun k => (R 0 x0).w k] W w' L → L[0]? = some (rs r) → (∀ k, r.A k → (R 0 x0).A k ∨ W.heap.size ≤ k) → Turns W w' (R 0 x0) r := by
  intro r L w' hs h0 hA
  refine Turns.of_st hs (fun k hk => by simpa using hk) (hs.res h0) (fun k hk => ?_) hA
  rcases hs.ownW _ (List.mem_of_getElem? h0) k (by simpa using hk) with h | h
  · exact .inr h
  · exact .inl (by simpa using h)
 refine lp qc (fun x : Nat × α => (x.1 < len + n ∧ x.1 % n = 0) ∧ ∀ k, (R x.1 x.2).A k → (R 0 x0).A k ∨ W.heap.size ≤ k)
  (fun x => ⟨[(0, .func (.yield l) #[] #[]), (1, ptr b2), (2, ptr b3), (4, .int .i64 x.1)], [rs (R x.1 x.2), cr b2 #[.slice (some ⟨sb, so, none⟩) len cap] 48, cr b3 #[.int .i64 n] 3], []⟩) (fun x => len + n - x.1) (0, x0) ⟨⟨by simp only; omega, Nat.zero_mod _⟩, fun k hk => .inl hk⟩
  ⟨⟨rfl, rfl, rfl, rfl, trivial⟩, .cons (.cons (.cons .nil)), rfl⟩ ?_
 rintro ⟨i, x⟩ ⟨⟨hi, hm⟩, hA⟩
 simp only at hi hm hA
 refine ld1 1 rfl (v := .slice (some ⟨sb, so, none⟩) len cap) rfl ?_
 refine cd (fun h => ?_) (fun h => ?_)
 · have hlt : i < len := by omega
   refine dr [rs (R i x), cr b2 #[.slice (some ⟨sb, so, none⟩) len cap] 48, cr b3 #[.int .i64 n] 3] 99 (.t 0 (.t 1 (.t 2 (.t 3 (.t 4 (.n 5 (.t 6 .nil))))))) qc qe (by kernel_rfl) (.cons (.cons (.cons .nil))) ?_
   refine ld1 2 rfl (v := .int .i64 n) rfl ?_
   refine ld1 1 rfl (v := .slice (some ⟨sb, so, none⟩) len cap) rfl ?_
   refine ⟨.mk i len cap rfl rfl rfl (by omega) hc (Nat.le_refl _) (by simp) (.on (by omega) ?_)⟩
   rw [qi, qh, Nat.mul_one]
   refine biMin ?_
   have he : min (n : Int) ((len - i : Nat) : Int) = ((min n (len - i) : Nat) : Int) := by omega
   rw [he]
   refine ⟨.cons (.cons (.cons .nil)), ?_⟩
   refine ld1 1 rfl (v := .slice (some ⟨sb, so, none⟩) len cap) rfl ?_
   refine .as ((i + min n (len - i) : Nat) : Int) (by simp only; omega) (by simp only [mn]; omega) (by simp only [mx]; omega) ?_
   refine .as ((i + min n (len - i) : Nat) : Int) (by simp only; omega) (by simp only [mn]; omega) (by simp only [mx]; omega) ?_
   refine ⟨.mk i (i + min n (len - i)) (i + min n (len - i)) rfl rfl rfl (by omega) (Nat.le_refl _) (by omega) (by simp) (.on (by omega) ?_)⟩
   rw [qi, qh, Nat.mul_one, Nat.add_sub_cancel_left]
   refine yd (α := α) (β := β) (R := R) (S := S) (nx := chNx sb so len n) (i := i) (j := i + n) (x := x) 0 rfl hround ⟨hlt, hm, rfl, rfl⟩ (fun y hA2 => ?_) (fun y hA2 => ?_)
   · refine cf rfl ?_
     refine ld1 2 rfl (v := .int .i64 n) rfl ?_
     refine .as ((i + n : Nat) : Int) (by simp only; omega) (by simp only [mn]; omega) (by simp only [mx]; omega) ?_
     refine ⟨(i + n, y), ⟨⟨by simp only; omega, by simp only; rw [Nat.add_mod_right]; exact hm⟩, fun k hk => ?_⟩, by simp only; omega, ⟨⟨rfl, rfl, rfl, rfl, trivial⟩, .cons (.cons (.cons .nil)), rfl⟩⟩
     rcases hA2 k hk with h | h
     · exact hA k h
     · exact .inr h
   · refine ct rfl ?_
     refine ⟨fun w1 hs => .inr ⟨y, fin' _ _ _ hs rfl fun k hk => ?_⟩⟩
     rcases hA2 k hk with h | h
     · exact hA k h
     · exact .inr h
 · refine ⟨fun w1 hs => .inl ⟨i, x, ⟨by omega, hi, hm⟩, fin' _ _ _ hs rfl hA⟩⟩
end
section
open Go.RowKit Go.Sx
theorem mixv_w (x : Wd) (a b c : Nat) (s : Bool) (ha : a ≤ 64) (hb : b ≤ 64) (hc : c ≤ 64) : qbo (ux x) a b c s = ux (zo x a b c s) := by
 unfold qbo zo
 rw [qdl x a ha _ rfl, qdl x b hb _ rfl, QU, qdl x c hc _ rfl, Zs x c hc _ rfl]
 cases s <;> exact QU _ _
def qm (ws : List Wd) (n : Nat) : Array Value := (ws.map uv ++ List.replicate n (Value.int .u64 0)).toArray
theorem QT (ws : List Wd) (n i : Nat) (h : i < ws.length) : (qm ws n)[i]? = some (uv (ws.getD i 0)) := by
 unfold qm
 rw [List.getElem?_toArray, List.getElem?_append_left (by simpa using h)]
 simp [h]
theorem tb_at (ws : List Wd) (i : Nat) (h : i < ws.length) : (ws.map uv).toArray[i]? = some (uv (ws.getD i 0)) := by
 simp [h]
theorem QJ {α : Type} (x : α) (A B : List α) (h : A.length = B.length) (i : Nat) (hi : i < A.length) (hx : A[i]? = some x) : (A.take i ++ B.drop i).set i x = A.take (i + 1) ++ B.drop (i + 1) := by
 have hb : i < B.length := by omega
 rw [List.set_append_right _ _ (by simp; omega), List.length_take, Nat.min_eq_left (by omega), Nat.sub_self, List.drop_eq_getElem_cons hb, List.set_cons_zero, List.take_add_one, hx]
 simp
theorem qaO {α : Type} (A B : List α) (i : Nat) (hi : i ≤ A.length) : (A.take i ++ B.drop i)[i]? = B[i]? := by
 rw [List.getElem?_append_right (by simp; omega), List.length_take, Nat.min_eq_left hi, Nat.sub_self, List.getElem?_drop]; simp
theorem zh (s : H8) (i : Nat) (h : i < 8) : (s.l.map uv).toArray[i]? = some (uv (s.l.getD i 0)) := tb_at _ _ h
theorem qej (s r : H8) (i : Nat) (h : i < 8) : (s.add r).l.getD i 0 = s.l.getD i 0 + r.l.getD i 0 := by
 match i, h with
 | 0, _ => rfl | 1, _ => rfl | 2, _ => rfl | 3, _ => rfl | 4, _ => rfl | 5, _ => rfl | 6, _ => rfl | 7, _ => rfl
theorem qbO (b tb : Nat) (k : Int) (n1 n2 n3 : Nat) (f : Bool) (h1 : n1 ≤ 64) (h2 : n2 ≤ 64) (h3 : n3 ≤ 64)
 (h : ∀ (x : Int) (w : World), w.heap[b]? = some (.cells (shp tb) 344 (0, 0)) → Calls Tryz.prog 290 ([.pointer (some ⟨b, 0, none⟩), .int .u64 x, .int .i64 k] : List Value).toArray w fun e w' => e = .returned (.int .u64 (qbo x n1 n2 n3 f)) ∧ Below w.heap.size w w') (x : Wd) (w : World) (hw : w.heap[b]? = some (.cells (shp tb) 344 (0, 0))) :
 Calls Tryz.prog 290 ([ptr b, uv x, .int .i64 k] : List Value).toArray w fun e w' => e = .returned (uv (zo x n1 n2 n3 f)) ∧ Below w.heap.size w w' := by
 rw [uv, uv, ← mixv_w x n1 n2 n3 f h1 h2 h3]; exact h (ux x) w hw
theorem QE : (Tryz.prog.info? 131).map (fun i => (i.zero, i.size, i.bytes)) = some (some (.int .u64 0), 1, 8) := by kernel_rfl
theorem qcO : Tryz.prog.underlying 129 = some (.slice 131) := by kernel_rfl
theorem bs34 (x : Int) (w : World) : (Instr.buildSlice 129 1 #[(0, .int .u64 x)]).run Tryz.prog w = .ok (.slice (some ⟨w.heap.size, 0, none⟩) 1 1) (w.alloc (.cells #[.int .u64 x] 131)) := by
 obtain ⟨i, hi, hz, hs, hb⟩ := Qg QE
 exact run_buildSlice w _ _ 1 _ #[.int .u64 x] i (.int .u64 0) qcO hi hz (by rw [hs]; decide) (by rw [hs]; decide) (by rw [hs]; kernel_rfl)
theorem Zp (p : List UInt8) (hp : p.length = 128) (k : Nat) (hk : k < 16) : (qp p).take (k + 1) = (qp p).take k ++ [be ((p.drop (8 * k)).take 8)] := by
 unfold qp
 rw [List.take_add_one]
 simp [hk]
theorem qaT (p : List UInt8) (hp : p.length = 128) (i j : Nat) (hi : i + 8 ≤ 128) (hj : j < 8) : ((p.drop i).take 8).take (j + 1) = ((p.drop i).take 8).take j ++ [p.getD (i + j) 0] := by
 rw [List.take_add_one]
 congr 1
 have : i + j < p.length := by omega
 simp [hj, List.getElem?_drop, this, List.getD]
theorem qcn (b tb pb po cap : Nat) (c : Array Value) (s : H8) (p : List UInt8) (hp : p.length = 128) (hcp : ∀ i, i < 128 → c[po + i]? = some (.int .u8 (p.getD i 0).toNat)) (hcap : 128 ≤ cap) (w : World)
 (hw : w.heap[b]? = some (.cells (shp tb) 344 (0, 0))) (ht : w.heap[tb]? = some (.cells (ktab.map uv).toArray 131 (0, 0))) (hpb : w.heap[pb]? = some (.cells c 5 (0, 0))) :
 Calls Tryz.prog 272 ([ptr b, .agg (s.l.map uv).toArray, .slice (some ⟨pb, po, none⟩) 128 cap] : List Value).toArray w fun e w' => e = .returned (.agg ((Zy s p).l.map uv).toArray) ∧ Below w.heap.size w w' := by
 have hmk := fun w => made1 (P := Tryz.prog) w qcO QE rfl 0 80 (by decide) (by decide) (by decide)
 refine qj qc Tryz.func272 rfl Tryz.ntmps272 rfl (St.reads (L := [cr b (shp tb) 344, cr tb (ktab.map uv).toArray 131, cr pb c 5]) (by simp [hw, ht, hpb])) ?_
 intro b4 b6
 refine ld1 0 rfl (v := .int .i64 64) rfl ?_
 refine ⟨by decide, by decide, by decide, ?_⟩
 refine ld1 0 rfl (v := .slice (some ⟨tb, 0, none⟩) 80 80) rfl ?_
 refine .mk 0 80 _ _ hmk fun wb => ?_
 intro b8
 refine s1 6 rfl (show 0 < 1 by decide) ?_
 refine inl (C := ⟨Tryz.prog, tab, 194, [], w, none⟩) qc Tryz.func191 rfl Tryz.ntmps191 rfl ?_
 intro b2 b3
 refine ld1 8 rfl (v := .int .i64 8) rfl ?_
 refine cf rfl ?_
 refine bk ?_
 have hL : List.Perm ([cr b (shp tb) 344, cr tb (ktab.map uv).toArray 131, cr pb c 5, cl b4 (s.l.map uv).toArray 172, cl b6 (List.replicate 8 (Value.int .u64 0)).toArray 172, cl b2 #[.slice (some ⟨pb, po, none⟩) 128 cap] 48, cl b3 #[.int .i64 8] 3] ++ [cl wb (qm [] 80) 131, cl b8 #[.slice (some ⟨wb, 0, none⟩) 0 80] 129]) [cr b (shp tb) 344, cr tb (ktab.map uv).toArray 131, cr pb c 5, cl b4 (s.l.map uv).toArray 172, cl b6 (List.replicate 8 (Value.int .u64 0)).toArray 172, cl wb (qm [] 80) 131, cl b8 #[.slice (some ⟨wb, 0, none⟩) 0 80] 129, cl b2 #[.slice (some ⟨pb, po, none⟩) 128 cap] 48, cl b3 #[.int .i64 8] 3] := .append_left [_, _, _, _, _] (List.perm_append_comm (l₁ := [_, _]) (l₂ := [_, _]))
 refine rfm (C := ⟨Tryz.prog, tab, 194, [], w, none⟩) (L0 := [cr b (shp tb) 344, cr tb (ktab.map uv).toArray 131, cr pb c 5, cl b4 (s.l.map uv).toArray 172, cl b6 (List.replicate 8 (Value.int .u64 0)).toArray 172, cl b2 #[.slice (some ⟨pb, po, none⟩) 128 cap] 48, cl b3 #[.int .i64 8] 3]) (α := Unit) (β := Empty) qc rfl rfl rfl
  (qa9 b2 b3 pb po 128 cap 8 (by decide) (by decide) (by decide) hcap) (fun i _ => [cl wb (qm ((qp p).take (i / 8)) (80 - i / 8)) 131, cl b8 #[.slice (some ⟨wb, 0, none⟩) (i / 8) 80] 129]) (fun y => y.elim) (fun y => y.elim) () ?_
  (fun w' hs => ⟨⟨hs.nth (k := 5) rfl, hs.nth (k := 6) rfl⟩, ?_⟩) ?_ ?_ ?_ (fun y => y.elim)
 · refine List.Perm.trans ?_ (List.Perm.trans hL ?_)
   · exact .of_eq rfl
   · exact .of_eq rfl
 · rintro k (hk | rfl | rfl) e he hw
   · exact hk.elim
   · simp only [List.mem_cons, List.not_mem_nil, or_false] at he
     rcases he with rfl | rfl
     · exact (QG hs.apart (i := 7) (j := 5) rfl rfl (by decide) _).1 hw (by simp)
     · exact (QG hs.apart (i := 8) (j := 5) rfl rfl (by decide) _).1 hw (by simp)
   · simp only [List.mem_cons, List.not_mem_nil, or_false] at he
     rcases he with rfl | rfl
     · exact (QG hs.apart (i := 7) (j := 6) rfl rfl (by decide) _).1 hw (by simp)
     · exact (QG hs.apart (i := 8) (j := 6) rfl rfl (by decide) _).1 hw (by simp)
 · rintro i args j ⟨_, _, rfl, _⟩; rfl
 · rintro l i args j x w' ready busy ⟨hi, him, rfl, rfl⟩
   have hwt := Zp p hp (i / 8) (by omega)
   have h8i : 8 * (i / 8) = i := by omega
   rw [h8i] at hwt
   have hj8 : (i + 8) / 8 = i / 8 + 1 := by omega
   have hch := fun j hj => qaT p hp i j (by omega) hj
   have hcv : chV pb po 128 8 i = .slice (some ⟨pb, po + i, none⟩) 8 8 := by unfold chV; rw [show min 8 (128 - i) = 8 by omega]
   rw [hcv]
   refine ⟨rfl, ?_⟩
   refine lp qc (fun j : Nat => j ≤ 8) (fun j => ⟨[(8, ptr b8), (9, .slice (some ⟨pb, po + i, none⟩) 8 8), (10, uv (be (((p.drop i).take 8).take j))), (43, .slice (some ⟨pb, po + i, none⟩) 8 8), (44, .int .i64 8), (45, .int .i64 j)],
    [dead, dead, ⟨pb, some (.cells c 5 (0, 0)), true, none⟩, dead, dead, dead, dead, cl wb (qm ((qp p).take (i / 8)) (80 - i / 8)) 131, cl b8 #[.slice (some ⟨wb, 0, none⟩) (i / 8) 80] 129, ⟨l, some busy, false, none⟩], []⟩) (fun j => 8 - j) 0 (Nat.zero_le _)
    ⟨⟨rfl, rfl, rfl, rfl, rfl, rfl, trivial⟩, .dead (.dead (.cons (.dead (.dead (.dead (.dead (.cons (.cons (.cons .nil))))))))), rfl⟩ ?_
   intro j hj
   refine cd (fun h => ?_) (fun h => ?_)
   · have hjl : j < 8 := by omega
     refine ⟨by omega, by omega, ?_⟩
     refine ld1 2 rfl (v := .int .u8 (p.getD (i + j) 0).toNat) (by rw [qi, qh, ← hcp (i + j) (by omega)]; congr 1; simp; omega) ?_
     have hb := (p.getD (i + j) 0).toNat_lt
     refine ⟨by decide, .to (ux (be (((p.drop i).take 8).take j) <<< 8)) (qdj _ 8 (by decide) _ rfl) ?_⟩
     refine .same (by simp only [mn]; omega) (by simp only [mx]; omega) ?_
     refine .same (by simp only [mn]; omega) (by simp only [mx]; omega) ?_
     refine ⟨j + 1, by omega, by omega, ⟨⟨rfl, rfl, congrArg (fun x => some (Value.int .u64 x)) (a₁ := Qz .or .u64 (ux (be (((p.drop i).take 8).take j) <<< 8)) ((p.getD (i + j) 0).toNat : Int)) ?_, rfl, rfl, rfl, trivial⟩, .refl _, rfl⟩⟩
     rw [hch j hjl, qb6]
     exact (by rw [← qbw, qbj]; rfl)
   · obtain rfl : j = 8 := by omega
     rw [List.take_take, Nat.min_self]
     refine ld1 8 rfl (v := .slice (some ⟨wb, 0, none⟩) (i / 8) 80) rfl ?_
     refine .mk #[uv (be ((p.drop i).take 8))] 131 (fun w => bs34 _ w) (fun bn => ?_)
     have hwl : ((qp p).take (i / 8)).length = i / 8 := by rw [List.length_take, show (qp p).length = 16 by simp [qp]]; omega
     refine apI1 (xs := ((qp p).take (i / 8)).map uv) (j := List.replicate (80 - i / 8) (Value.int .u64 0)) 7 10 qc rfl QE rfl (by rw [List.length_map, hwl]) (by rw [List.length_append, List.length_map, hwl, List.length_replicate]; omega) (by omega) rfl rfl ?_
     refine s1 8 rfl (show 0 < 1 by decide) ?_
     have hE : qm ((qp p).take ((i + 8) / 8)) (80 - (i + 8) / 8) = (((qp p).take (i / 8)).map uv ++ [uv (be ((p.drop i).take 8))] ++ (List.replicate (80 - i / 8) (Value.int .u64 0)).drop 1).toArray := by
      rw [hj8, hwt, qm, List.map_append, List.drop_replicate, show 80 - (i / 8 + 1) = 80 - i / 8 - 1 by omega]; rfl
     refine ⟨(), ?_, fun e he k hk => .inl ?_⟩
     · show Sub ([cl wb (qm ((qp p).take ((i + 8) / 8)) (80 - (i + 8) / 8)) 131, cl b8 #[.slice (some ⟨wb, 0, none⟩) ((i + 8) / 8) 80] 129] ++ [_]) _
       rw [hE, hj8]
       exact .drop (.drop (.drop (.drop (.drop (.drop (.drop (.cons (.cons (.cons .nil)))))))))
     · simp only [List.mem_cons, List.not_mem_nil, or_false] at he
       rcases he with rfl | rfl
       · exact ⟨_, List.mem_cons_self, by simpa using hk⟩
       · exact ⟨_, List.mem_cons_of_mem _ List.mem_cons_self, by simpa using hk⟩
 · intro i y b0 hfin
   obtain ⟨h1, h2, h3⟩ := hfin
   obtain rfl : i = 128 := by omega
   have hm0 := qbO b tb 0 28 34 39 false (by decide) (by decide) (by decide) (fun x w h => qd1 b tb x w h)
   have hm1 := qbO b tb 1 14 18 41 false (by decide) (by decide) (by decide) (fun x w h => qd0 b tb x w h)
   have hm2 := qbO b tb 2 1 8 7 true (by decide) (by decide) (by decide) (fun x w h => qdZ b tb x w h)
   have hm3 := qbO b tb 3 19 61 6 true (by decide) (by decide) (by decide) (fun x w h => qdY b tb x w h)
   have hwl : (qp p).length = 16 := by simp [qp]
   have hgl := fun k => zR k (qp p)
   rw [hwl] at hgl
   have ht16 : (qp p).take (128 / 8) = qp p := List.take_of_length_le (by omega)
   rw [ht16]
   refine lp qc (fun k : Nat => k ≤ 64) (fun k => ⟨[(0, ptr b), (4, ptr b4), (6, ptr b6), (8, ptr b8), (13, .int .i64 (16 + k : Nat))],
    [cr b (shp tb) 344, cr tb (ktab.map uv).toArray 131, cl b4 (s.l.map uv).toArray 172, cl b6 (List.replicate 8 (Value.int .u64 0)).toArray 172, cl wb (qm (qK k (qp p)) (64 - k)) 131, cl b8 #[.slice (some ⟨wb, 0, none⟩) (16 + k) 80] 129, dfe b0], [{ target := .collected b0, args := #[] }]⟩) (fun k => 64 - k) 0 (Nat.zero_le _)
    ⟨⟨rfl, rfl, rfl, rfl, rfl, trivial⟩, .cons (.cons (.drop (.cons (.cons (.drop (.drop (.cons (.cons (.cons .nil))))))))), rfl⟩ ?_
   intro k hk
   have hgk := hgl k
   refine ld1 0 rfl (v := .slice (some ⟨tb, 0, none⟩) 80 80) rfl ?_
   refine cd (fun h => ?_) (fun h => ?_)
   · have hlt : k < 64 := by omega
     refine drs [cr b (shp tb) 344, cr tb (ktab.map uv).toArray 131, cl b4 (s.l.map uv).toArray 172, cl b6 (List.replicate 8 (Value.int .u64 0)).toArray 172, cl wb (qm (qK k (qp p)) (64 - k)) 131, cl b8 #[.slice (some ⟨wb, 0, none⟩) (16 + k) 80] 129] [29, 30] (.t 0 (.t 1 (.t 2 (.t 3 (.t 4 (.t 5 (.t 6 (.t 7 (.t 8 (.t 9 (.t 10 (.t 11 (.t 12 (.t 13 (.t 14 (.t 15 (.t 16 (.t 17 (.t 18 (.t 19 (.t 20 (.t 21 (.t 22 (.t 23 (.t 24 (.t 25 (.t 26 (.t 27 (.n 28 (.n 29 (.n 30 .nil))))))))))))))))))))))))))))))) qc qe (by kernel_rfl) (.cons (.cons (.cons (.cons (.cons (.cons .nil)))))) ?_
     refine ld1 5 rfl (v := .slice (some ⟨wb, 0, none⟩) (16 + k) 80) rfl ?_
     refine ld1 5 rfl (v := .slice (some ⟨wb, 0, none⟩) (16 + k) 80) rfl ?_
     refine .as ((16 + k - 2 : Nat) : Int) (by omega) (by simp only [mn]; omega) (by simp only [mx]; omega) ?_
     refine ⟨by omega, by omega, ?_⟩
     refine ld1 4 rfl (v := uv ((qK k (qp p)).getD (16 + k - 2) 0)) (by rw [qi, qh, Nat.zero_add, Nat.mul_one, Int.toNat_natCast]; exact QT _ _ _ (by omega)) ?_
     refine czs (fun w hs => hm3 _ w (hs.nth (k := 0) rfl)) ?_
     refine ld1 5 rfl (v := .slice (some ⟨wb, 0, none⟩) (16 + k) 80) rfl ?_
     refine .as ((16 + k - 7 : Nat) : Int) (by omega) (by simp only [mn]; omega) (by simp only [mx]; omega) ?_
     refine ⟨by omega, by omega, ?_⟩
     refine ld1 4 rfl (v := uv ((qK k (qp p)).getD (16 + k - 7) 0)) (by rw [qi, qh, Nat.zero_add, Nat.mul_one, Int.toNat_natCast]; exact QT _ _ _ (by omega)) ?_
     refine .to _ (qC _ _) ?_
     refine ld1 5 rfl (v := .slice (some ⟨wb, 0, none⟩) (16 + k) 80) rfl ?_
     refine .as ((16 + k - 15 : Nat) : Int) (by omega) (by simp only [mn]; omega) (by simp only [mx]; omega) ?_
     refine ⟨by omega, by omega, ?_⟩
     refine ld1 4 rfl (v := uv ((qK k (qp p)).getD (16 + k - 15) 0)) (by rw [qi, qh, Nat.zero_add, Nat.mul_one, Int.toNat_natCast]; exact QT _ _ _ (by omega)) ?_
     refine czs (fun w hs => hm2 _ w (hs.nth (k := 0) rfl)) ?_
     refine .to _ (qC _ _) ?_
     refine ld1 5 rfl (v := .slice (some ⟨wb, 0, none⟩) (16 + k) 80) rfl ?_
     refine .as ((16 + k - 16 : Nat) : Int) (by omega) (by simp only [mn]; omega) (by simp only [mx]; omega) ?_
     refine ⟨by omega, by omega, ?_⟩
     refine ld1 4 rfl (v := uv ((qK k (qp p)).getD (16 + k - 16) 0)) (by rw [qi, qh, Nat.zero_add, Nat.mul_one, Int.toNat_natCast]; exact QT _ _ _ (by omega)) ?_
     refine .to _ (qC _ _) ?_
     refine .mk #[uv (zD (qK k (qp p)))] 131 (fun w => ?_) (fun bn => ?_)
     · unfold zD; rw [hgk]; exact bs34 _ w
     refine ⟨.cons (.cons (.cons (.cons (.cons (.cons .nil))))), ?_⟩
     refine apI1 (xs := (qK k (qp p)).map uv) (j := List.replicate (64 - k) (Value.int .u64 0)) 4 7 qc rfl QE rfl (by rw [List.length_map, hgk]) (by rw [List.length_append, List.length_map, hgk, List.length_replicate]; omega) (by omega) rfl rfl ?_
     refine s1 5 rfl (show 0 < 1 by decide) ?_
     refine .as ((16 + (k + 1) : Nat) : Int) (by omega) (by simp only [mn]; omega) (by simp only [mx]; omega) ?_
     have hE : qm (qK (k + 1) (qp p)) (64 - (k + 1)) = ((qK k (qp p)).map uv ++ [uv (zD (qK k (qp p)))] ++ (List.replicate (64 - k) (Value.int .u64 0)).drop 1).toArray := by
      rw [qK, qm, List.map_append, List.drop_replicate, show 64 - (k + 1) = 64 - k - 1 by omega]; rfl
     refine ⟨k + 1, by omega, by omega, ?_⟩
     rw [hE]
     exact ⟨⟨rfl, rfl, rfl, rfl, rfl, trivial⟩, .cons (.cons (.cons (.cons (.cons (.cons (.cons .nil)))))), rfl⟩
   · obtain rfl : k = 64 := by omega
     generalize hws : qK 64 (qp p) = ws at *
     refine drs [dead, dead, cl b4 (s.l.map uv).toArray 172] [] (.t 0 (.t 1 (.t 2 (.t 3 (.t 4 (.t 5 (.t 6 (.t 7 (.t 8 (.t 9 (.t 10 (.t 11 (.t 12 (.t 13 (.t 14 (.t 15 (.t 16 (.t 17 (.t 18 (.t 19 (.t 20 (.t 21 (.t 22 (.t 23 .nil)))))))))))))))))))))))) qc qe (by kernel_rfl) (.dead (.dead (.cons .nil))) ?_
     refine ⟨by decide, by decide, ld1 2 rfl (v := uv s.a) rfl ?_⟩
     refine ⟨by decide, by decide, ld1 2 rfl (v := uv s.b) rfl ?_⟩
     refine ⟨by decide, by decide, ld1 2 rfl (v := uv s.c) rfl ?_⟩
     refine ⟨by decide, by decide, ld1 2 rfl (v := uv s.d) rfl ?_⟩
     refine ⟨by decide, by decide, ld1 2 rfl (v := uv s.e) rfl ?_⟩
     refine ⟨by decide, by decide, ld1 2 rfl (v := uv s.f) rfl ?_⟩
     refine ⟨by decide, by decide, ld1 2 rfl (v := uv s.g) rfl ?_⟩
     refine ⟨by decide, by decide, ld1 2 rfl (v := uv s.h) rfl ?_⟩
     refine ld1 0 rfl (v := .slice (some ⟨tb, 0, none⟩) 80 80) rfl ?_
     refine lp qc (fun t : Nat => t ≤ 80) (fun t => ⟨[(0, ptr b), (4, ptr b4), (6, ptr b6), (8, ptr b8), (14, uv (QC ktab ws s t).a), (15, uv (QC ktab ws s t).b), (16, uv (QC ktab ws s t).c), (17, uv (QC ktab ws s t).d), (18, uv (QC ktab ws s t).e), (19, uv (QC ktab ws s t).f), (20, uv (QC ktab ws s t).g), (21, uv (QC ktab ws s t).h),
      (117, .slice (some ⟨tb, 0, none⟩) 80 80), (118, .int .i64 80), (119, .int .i64 t)],
      [cr b (shp tb) 344, cr tb (ktab.map uv).toArray 131, cl b4 (s.l.map uv).toArray 172, cl b6 (List.replicate 8 (Value.int .u64 0)).toArray 172, cl wb (qm ws 0) 131, cl b8 #[.slice (some ⟨wb, 0, none⟩) 80 80] 129, dfe b0], [{ target := .collected b0, args := #[] }]⟩) (fun t => 80 - t) 0 (Nat.zero_le _)
      ⟨⟨rfl, rfl, rfl, rfl, rfl, rfl, rfl, rfl, rfl, rfl, rfl, rfl, rfl, rfl, rfl, trivial⟩, .refl _, rfl⟩ ?_
     intro t ht
     refine cd (fun h => ?_) (fun h => ?_)
     · have hlt : t < 80 := by omega
       refine ⟨by omega, by omega, ?_⟩
       refine ld1 1 rfl (v := uv (ktab.getD t 0)) (by rw [qi, qh, Nat.zero_add, Nat.mul_one, Int.toNat_natCast]; exact tb_at _ _ (by rw [ZB]; omega)) ?_
       have hst : QC ktab ws s (t + 1) = rnd (QC ktab ws s t) (ktab.getD t 0) (ws.getD t 0) := rfl
       generalize QC ktab ws s t = st at *
       refine drs [cr b (shp tb) 344, dead, dead, dead, cl wb (qm ws 0) 131, cl b8 #[.slice (some ⟨wb, 0, none⟩) 80 80] 129] [] (.t 0 (.t 1 (.t 2 (.t 3 (.t 4 (.t 5 (.t 6 (.t 7 (.t 8 (.t 9 (.t 10 (.t 11 (.t 12 (.t 13 (.t 14 (.t 15 (.t 16 (.t 17 (.t 18 (.t 19 (.t 20 (.t 21 .nil)))))))))))))))))))))) qc qe (by kernel_rfl) (.cons (.dead (.dead (.dead (.cons (.cons .nil)))))) ?_
       refine czs (fun w hs => hm1 _ w (hs.nth (k := 0) rfl)) ?_
       refine .to _ (qC _ _) ?_
       refine .to (ux (st.h + zo st.e 14 18 41 false + (st.e &&& st.f ||| ~~~st.e &&& st.g))) (by rw [u_not, zf, zf, qbj]; exact qC _ _) ?_
       refine .to _ (qC _ _) ?_
       refine ld1 5 rfl (v := .slice (some ⟨wb, 0, none⟩) 80 80) rfl ?_
       refine ⟨by omega, by omega, ?_⟩
       refine ld1 4 rfl (v := uv (ws.getD t 0)) (by rw [qi, qh, Nat.zero_add, Nat.mul_one, Int.toNat_natCast]; exact QT _ _ _ (by omega)) ?_
       refine .to _ (qC _ _) ?_
       refine cvs (fun w hs => hm0 _ w (hs.nth (k := 0) rfl)) ?_
       refine .to (ux (zo st.a 28 34 39 false + (st.a &&& st.b ||| st.a &&& st.c ||| st.b &&& st.c))) (by rw [zf, zf, zf, qbj, qbj]; exact qC _ _) ?_
       refine .to _ (qC _ _) ?_
       refine .to _ (qC _ _) ?_
       refine .as ((t + 1 : Nat) : Int) (by omega) (by simp only [mn]; omega) (by simp only [mx]; omega) ?_
       refine ⟨t + 1, by omega, by omega, ?_⟩
       simp only [hst]
       exact ⟨⟨rfl, rfl, rfl, rfl, rfl, rfl, rfl, rfl, rfl, rfl, rfl, rfl, rfl, rfl, rfl, trivial⟩, .refl _, rfl⟩
     · obtain rfl : t = 80 := by omega
       obtain ⟨r, hr⟩ : ∃ r, r = QC ktab ws s 80 := ⟨_, rfl⟩
       have hpc : Zy s p = s.add r := by unfold Zy; rw [hws, ← hr]
       rw [hpc]
       simp only [← hr]
       refine bu (c := (r.l.map uv).toArray) (by kernel_rfl) ?_
       refine lp qc (fun i : Nat => i ≤ 8) (fun i => ⟨[(0, ptr b), (4, ptr b4), (6, ptr b6), (181, .agg (r.l.map uv).toArray), (182, .int .i64 i)],
        [dead, dead, cl b4 (((s.add r).l.map uv).take i ++ (s.l.map uv).drop i).toArray 172, cl b6 (List.replicate 8 (Value.int .u64 0)).toArray 172, dead, dead, dfe b0], [{ target := .collected b0, args := #[] }]⟩) (fun i => 8 - i) 0 (Nat.zero_le _)
        ⟨⟨rfl, rfl, rfl, rfl, rfl, trivial⟩, .dead (.dead (.cons (.cons (.dead (.dead (.cons .nil)))))), rfl⟩ ?_
       intro i hi
       refine cd (fun h => ?_) (fun h => ?_)
       · have hlt : i < 8 := by omega
         refine ⟨by omega, by omega, .cell (uv (r.l.getD i 0)) rfl (by rw [qh, Nat.mul_one, Int.toNat_natCast]; exact zh r i hlt) ?_⟩
         refine ⟨by omega, by omega, ?_⟩
         refine ld1 2 rfl (v := uv (s.l.getD i 0)) (by rw [qi, qh, Nat.zero_add, Nat.mul_one, Int.toNat_natCast, List.getElem?_toArray, qaO _ _ _ (by simp [H8.l]; omega), ← List.getElem?_toArray]; exact zh s i hlt) ?_
         refine .to _ (qC _ _) ?_
         refine ⟨by omega, by omega, ?_⟩
         refine s1 2 rfl (by rw [qi, qh, Nat.zero_add, Nat.mul_one, Int.toNat_natCast]; simp [H8.l]; omega) ?_
         refine .as ((i + 1 : Nat) : Int) (by omega) (by simp only [mn]; omega) (by simp only [mx]; omega) ?_
         have hE : (((s.add r).l.map uv).take (i + 1) ++ (s.l.map uv).drop (i + 1)).toArray = (((s.add r).l.map uv).take i ++ (s.l.map uv).drop i).toArray.setIfInBounds (nad 0 (nmu (Int.toNat (i : Int)) 1)) (uv (s.l.getD i 0 + r.l.getD i 0)) := by
          rw [qi, qh, Nat.zero_add, Nat.mul_one, Int.toNat_natCast, List.setIfInBounds_toArray, ← qej s r i hlt, QJ _ _ _ (by simp [H8.l]) i (by simp [H8.l]; omega) (by rw [← List.getElem?_toArray]; exact zh _ i hlt)]
         refine ⟨i + 1, by omega, by omega, ?_⟩
         rw [hE]
         exact ⟨⟨rfl, rfl, rfl, rfl, rfl, trivial⟩, .dead (.dead (.cons (.cons (.dead (.dead (.cons .nil)))))), rfl⟩
       · obtain rfl : i = 8 := by omega
         have hE : (((s.add r).l.map uv).take 8 ++ (s.l.map uv).drop 8).toArray = ((s.add r).l.map uv).toArray := rfl
         rw [hE]
         refine ldN 2 rfl rfl ?_
         refine sN 3 rfl rfl rfl ?_ (by kernel_rfl)
         refine .mk 6 rfl ?_
         refine ldN 3 rfl rfl ?_
         exact rt rfl
end
section
open Go.RowKit Go.Sx
theorem bs5 (x : Int) (w : World) : (Instr.buildSlice 48 1 #[(0, .int .u8 x)]).run Tryz.prog w = .ok (.slice (some ⟨w.heap.size, 0, none⟩) 1 1) (w.alloc (.cells #[.int .u8 x] 5)) := by
 obtain ⟨i, hi, hz, hs, hb⟩ := Qg Qj
 exact run_buildSlice w _ _ 1 _ #[.int .u8 x] i (.int .u8 0) (by kernel_rfl) hi hz (by rw [hs]; decide) (by rw [hs]; decide) (by rw [hs]; kernel_rfl)
theorem qay (b : UInt8) : Lib.byteCells [b] = [.int .u8 b.toNat] := rfl
theorem qaX (bs : List UInt8) (i : Nat) (h : i < bs.length) : (Lib.byteCells bs)[i]? = some (.int .u8 (bs.getD i 0).toNat) := by simp [Lib.byteCells, h]
theorem qaH (k : Nat) : List.replicate (k + 1) (0 : UInt8) = List.replicate k 0 ++ [0] := List.replicate_succ'
theorem qce (n j : Nat) : (List.range (j + 1)).map (qL n) = (List.range j).map (qL n) ++ [qL n j] := by rw [List.range_succ, List.map_append]; rfl
theorem shrI (a i : Nat) (hi : i ≤ 64) (x : Int) (hx : x = i) : (a : Int).fdiv (2 ^ (min x.toNat IntKind.u64.bits)) = ((a / 2 ^ i : Nat) : Int) := by
 subst hx
 show (a : Int).fdiv (2 ^ (min ((i : Nat) : Int).toNat 64)) = _
 rw [Int.toNat_natCast, Nat.min_eq_left hi, Int.fdiv_eq_ediv_of_nonneg _ (by exact Int.le_of_lt (Int.pow_pos (by decide))), Int.natCast_ediv, Int.natCast_pow]; rfl
theorem zK (n j : Nat) : (qL n j).toNat = 8 * n / 256 ^ (15 - j) % 256 := by
 unfold qL; rw [UInt8.toNat_ofNat']; omega
theorem qdn (n j : Nat) (hn : n ≤ 1000000) (hj : j ≤ 7) : qL n j = 0 := by
 unfold qL
 rw [Nat.div_eq_of_lt (Nat.lt_of_lt_of_le (show 8 * n < 256 ^ 8 by omega) (Nat.pow_le_pow_right (by decide) (by omega)))]; rfl
def QO (bs : List UInt8) (j : Nat) : List UInt8 := bs ++ [128] ++ List.replicate (qr bs.length) 0 ++ (List.range j).map (qL bs.length)
theorem zp (bs : List UInt8) (j : Nat) : Lib.byteCells (QO bs (j + 1)) = Lib.byteCells (QO bs j) ++ [.int .u8 (qL bs.length j).toNat] := by
 unfold QO; rw [qce, ← List.append_assoc, Lib.byteCells_append]; rfl
theorem qco (x : Wd) (m : Nat) (h : m < 8) : (Qd x).take (m + 1) = (Qd x).take m ++ [UInt8.ofNat (x.toNat / 2 ^ (56 - 8 * m) % 256)] := by
 unfold Qd
 rw [List.take_add_one]
 simp [h]
theorem Z5 (x : Wd) (m : Nat) : modk .u8 (ux (x >>> (56 - 8 * m))) = ((UInt8.ofNat (x.toNat / 2 ^ (56 - 8 * m) % 256)).toNat : Int) := by
 rw [UInt8.toNat_ofNat']
 unfold ux
 rw [BitVec.toNat_ushiftRight, Nat.shiftRight_eq_div_pow]
 show ((_ : Nat) : Int) % 256 = _
 omega
theorem qbU (s t : H8) : (s.l.map uv).toArray.size = (t.l.map uv).toArray.size := rfl
theorem qd2 (s : H8) : (s.l.map uv).toArray.toList.all (·.oneCell') = true := rfl
theorem h8_take (s : H8) (k : Nat) (hk : k < 8) : s.l.take (k + 1) = s.l.take k ++ [s.l.getD k 0] := by
 have : k < s.l.length := hk
 rw [List.take_add_one, List.getElem?_eq_getElem this]; simp [List.getD, this]
theorem qdo {n : Nat} {r : Sx.Own} {xs : List Value} (h : Rw 1 n r xs) : ∃ a c, sv r n = .slice a n c := by
 rcases r with _ | ⟨b, c, j⟩
 · obtain rfl : n = 0 := h.2; exact ⟨_, _, rfl⟩
 · exact ⟨_, _, rfl⟩
theorem qbt (b tb pb po kc : Nat) (vs : List Value) (xss : List (List Value)) (bs : List UInt8) (hbs : xss.flatten = Lib.byteCells bs) (hlen : vs.length = xss.length) (w : World) (hpb : pb < w.heap.size) (hp : ∀ (i : Nat) (u : Value), vs[i]? = some u → w.cell? ⟨pb, po + i, none⟩ = some u)
 (hx : ∀ (i : Nat) (v : Value) (xs : List Value), vs[i]? = some v → xss[i]? = some xs → Rd w v xs) (hn : bs.length ≤ 1000000) (hk : xss.length ≤ 1000)
 (hw : w.heap[b]? = some (.cells (shp tb) 344 (0, 0))) (ht : w.heap[tb]? = some (.cells (ktab.map uv).toArray 131 (0, 0))) :
 Calls Tryz.prog 253 ([ptr b, .slice (some ⟨pb, po, none⟩) xss.length kc] : List Value).toArray w fun e w' => ∃ r, e = .returned (sv r 64) ∧ Rw 1 64 r (Lib.byteCells (shaB bs)) ∧ zq w w' r (Lib.byteCells (shaB bs)) 5 ∧ Below w.heap.size w w' := by
 have hcc := fun w' (hs : Below w.heap.size w w') => qbu pb po kc vs xss hlen w' (Nat.lt_of_lt_of_le hpb hs.size) (fun i u hu => (hs.cell (p := ⟨pb, po + i, none⟩) hpb).trans (hp i u hu)) (fun i v xs h1 h2 => (hx i v xs h1 h2).below hs)
  (fun xs hxs u hu => by
   have : u ∈ xss.flatten := List.mem_flatten.2 ⟨xs, hxs, hu⟩
   rw [hbs] at this
   simp only [Lib.byteCells, List.mem_map] at this
   obtain ⟨_, _, rfl⟩ := this; rfl) (by rw [hbs, Lib.byteCells_length]; omega) hk
 rw [hbs, Lib.byteCells_length] at hcc
 refine (enter qc Tryz.func253 rfl Tryz.ntmps253 rfl (St.reads (L := [cr b (shp tb) 344, cr tb (ktab.map uv).toArray 131]) (by simp [hw, ht])) (R := fun v w' => ∃ r, v = sv r 64 ∧ Rw 1 64 r (Lib.byteCells (shaB bs)) ∧ zq w w' r (Lib.byteCells (shaB bs)) 5 ∧ Below w.heap.size w w') ?_).mono (fun e w' ⟨v, he, r, hv, h⟩ => ⟨r, by rw [he, hv], h⟩)
 intro b2
 refine co (fun w' hs => hcc w' hs.below) (fun r hr => ?_)
 obtain ⟨sa, sc, hsv⟩ := qdo hr
 rw [hsv]
 refine .same (by simp only [mn]; omega) (by simp only [mx]; omega) ?_
 rw [← hsv]
 refine ld1 2 rfl (v := ptr b) rfl ?_
 refine ld1 0 rfl (v := .int .i64 64) rfl ?_
 refine .as 1024 (by decide) (by decide) (by decide) ?_
 refine ⟨by decide, by decide, by decide, ?_⟩
 refine .mk #[.int .u8 128] 5 (fun w => bs5 _ w) (fun bn => ?_)
 refine ap1 (xs := Lib.byteCells bs) 3 4 qc rfl Qj rfl rfl hr rfl rfl (by omega) (by unfold maxLen; omega) (fun r1 hr1 => ?_)
 refine lp qc (fun x : Nat × Sx.Own => x.1 ≤ qr bs.length ∧ Rw 1 (bs.length + 1 + x.1) x.2 (Lib.byteCells (bs ++ [128] ++ List.replicate x.1 0)))
  (fun x => ⟨[(2, ptr b2), (5, sv x.2 (bs.length + 1 + x.1)), (6, .int .u64 bs.length), (7, .int .i64 128)], [cr b (shp tb) 344, cr tb (ktab.map uv).toArray 131, cl b2 #[ptr b] 342, se x.2 (Lib.byteCells (bs ++ [128] ++ List.replicate x.1 0)) 5], []⟩) (fun x => qr bs.length - x.1) (0, r1)
  ⟨Nat.zero_le _, by simpa [Lib.byteCells_append, qay] using hr1⟩ ⟨⟨rfl, rfl, rfl, rfl, trivial⟩, ?_, rfl⟩ ?_
 · simp only [List.replicate_zero, List.append_nil, Lib.byteCells_append, qay]
   exact .cons (.cons (.cons (.cons .nil)))
 rintro ⟨k, r⟩ ⟨hk1, hR⟩
 simp only at hk1 hR
 rcases r with _ | ⟨rb, cap, jj⟩
 · have := hR.2; omega
 have hfl : qr bs.length < 128 := by unfold qr; omega
 refine drs [cr b (shp tb) 344, dead, cl b2 #[ptr b] 342] [] (.t 0 (.t 1 (.t 2 (.t 3 (.t 4 (.t 5 (.t 6 (.t 7 (.t 8 (.t 9 (.t 10 .nil))))))))))) qc qe (by kernel_rfl) (.cons (.dead (.cons .nil))) ?_
 refine ⟨by omega, by simp only [mx]; omega, by decide, ?_⟩
 refine ld1 2 rfl (v := ptr b) rfl ?_
 refine ld1 0 rfl (v := .int .i64 16) rfl ?_
 refine .as 112 (by decide) (by decide) (by decide) ?_
 refine cne (fun h => ?_) (fun h => ?_)
 · have hlt : k < qr bs.length := by
    rcases Nat.lt_or_ge k (qr bs.length) with h1 | h1
    · exact h1
    · exfalso; apply h; obtain rfl : k = qr bs.length := by omega
      unfold qr; omega
   refine .mk #[.int .u8 0] 5 (fun w => bs5 _ w) (fun bn => ?_)
   refine ap1 (r := some (rb, cap, jj)) (xs := Lib.byteCells (bs ++ [128] ++ List.replicate k 0)) 3 4 qc rfl Qj rfl rfl hR rfl rfl (by omega) (by unfold maxLen; omega) (fun r2 hr2 => ?_)
   have e1 : Lib.byteCells (bs ++ [128] ++ List.replicate (k + 1) 0) = Lib.byteCells (bs ++ [128] ++ List.replicate k 0) ++ [.int .u8 0] := by
    rw [qaH, ← List.append_assoc, Lib.byteCells_append]; rfl
   rw [← e1] at hr2
   refine ⟨(k + 1, r2), ⟨by simp only; omega, hr2⟩, by simp only; omega, ?_⟩
   simp only [e1]
   exact ⟨⟨rfl, rfl, rfl, rfl, trivial⟩, .cons (.cons (.cons (.cons .nil))), rfl⟩
 · obtain rfl : k = qr bs.length := by
    unfold qr at hk1 ⊢; omega
   refine ld1 2 rfl (v := ptr b) rfl ?_
   refine ld1 0 rfl (v := .int .i64 16) rfl ?_
   refine .as 15 (by decide) (by decide) (by decide) ?_
   have hb0 : QO bs 0 = bs ++ [128] ++ List.replicate (qr bs.length) 0 := by simp [QO]
   rw [← hb0] at hR ⊢
   refine lp qc (fun x : Nat × Sx.Own => x.1 ≤ 16 ∧ Rw 1 (bs.length + 1 + qr bs.length + x.1) x.2 (Lib.byteCells (QO bs x.1)))
    (fun x => ⟨[(2, ptr b2), (5, sv x.2 (bs.length + 1 + qr bs.length + x.1)), (6, .int .u64 bs.length), (7, .int .i64 128), (8, .int .i64 (15 - (x.1 : Int)))], [cr b (shp tb) 344, cr tb (ktab.map uv).toArray 131, cl b2 #[ptr b] 342, se x.2 (Lib.byteCells (QO bs x.1)) 5], []⟩) (fun x => 16 - x.1) (0, some (rb, cap, jj))
    ⟨Nat.zero_le _, hR⟩ ⟨⟨rfl, rfl, rfl, rfl, rfl, trivial⟩, .cons (.cons (.cons (.cons .nil))), rfl⟩ ?_
   clear hR
   rintro ⟨j, r⟩ ⟨hj, hR⟩
   simp only at hj hR
   rcases r with _ | ⟨rb, cap, jj⟩
   · have := hR.2; omega
   have step : ∀ (r2 : Sx.Own), Rw 1 (bs.length + 1 + qr bs.length + j + 1) r2 (Lib.byteCells (QO bs j) ++ [.int .u8 (qL bs.length j).toNat]) → Rw 1 (bs.length + 1 + qr bs.length + (j + 1)) r2 (Lib.byteCells (QO bs (j + 1))) := by
    intro r2 h; rw [zp]; exact h
   refine cd (fun h => ?_) (fun h => ?_)
   · have hlt : j < 16 := by omega
     refine cd (fun h2 => ?_) (fun h2 => ?_)
     · have hz : (0 : Int) = (qL bs.length j).toNat := by rw [qdn _ _ hn (by omega)]; rfl
       refine .mk #[.int .u8 (qL bs.length j).toNat] 5 (fun w => by rw [← hz]; exact bs5 _ w) (fun bn => ?_)
       refine ap1 (r := some (rb, cap, jj)) (xs := Lib.byteCells (QO bs j)) 3 4 qc rfl Qj rfl rfl hR rfl rfl (by omega) (by unfold maxLen; omega) (fun r2 hr2 => ?_)
       refine .as (15 - ((j + 1 : Nat) : Int)) (by omega) (by simp only [mn]; omega) (by simp only [mx]; omega) ?_
       refine ⟨(j + 1, r2), ⟨by simp only; omega, step r2 hr2⟩, by simp only; omega, ?_⟩
       simp only [zp]
       exact ⟨⟨rfl, rfl, rfl, rfl, rfl, trivial⟩, .cons (.cons (.cons (.cons .nil))), rfl⟩
     · refine cq (fun h3 => ?_) (fun h3 => ?_)
       · have hz : (qL bs.length j).toNat = 0 := by rw [qdn _ _ hn (by omega)]; rfl
         refine ⟨by decide, ?_⟩
         refine .to ((qL bs.length j).toNat : Int) (by rw [shrI _ 61 (by decide) 61 rfl, Nat.div_eq_of_lt (by omega), hz]; rfl) ?_
         refine .mk #[.int .u8 (qL bs.length j).toNat] 5 (fun w => bs5 _ w) (fun bn => ?_)
         refine ap1 (r := some (rb, cap, jj)) (xs := Lib.byteCells (QO bs j)) 3 4 qc rfl Qj rfl rfl hR rfl rfl (by omega) (by unfold maxLen; omega) (fun r2 hr2 => ?_)
         refine .as (15 - ((j + 1 : Nat) : Int)) (by omega) (by simp only [mn]; omega) (by simp only [mx]; omega) ?_
         refine ⟨(j + 1, r2), ⟨by simp only; omega, step r2 hr2⟩, by simp only; omega, ?_⟩
         simp only [zp]
         exact ⟨⟨rfl, rfl, rfl, rfl, rfl, trivial⟩, .cons (.cons (.cons (.cons .nil))), rfl⟩
       · have h8 : 8 ≤ j := by omega
         refine ⟨by decide, .as ((8 * bs.length : Nat) : Int) (by show (bs.length : Int) * 2 ^ 3 = _; omega) (by simp only [mn]; omega) (by simp only [mx]; omega) ?_⟩
         refine .as ((8 * (15 - j) : Nat) : Int) (by omega) (by simp only [mn]; omega) (by simp only [mx]; omega) ?_
         refine ⟨by omega, ?_⟩
         refine .to ((qL bs.length j).toNat : Int) (by rw [shrI _ (8 * (15 - j)) (by omega) _ rfl, zK, Nat.pow_mul]; rfl) ?_
         refine .mk #[.int .u8 (qL bs.length j).toNat] 5 (fun w => bs5 _ w) (fun bn => ?_)
         refine ap1 (r := some (rb, cap, jj)) (xs := Lib.byteCells (QO bs j)) 3 4 qc rfl Qj rfl rfl hR rfl rfl (by omega) (by unfold maxLen; omega) (fun r2 hr2 => ?_)
         refine .as (15 - ((j + 1 : Nat) : Int)) (by omega) (by simp only [mn]; omega) (by simp only [mx]; omega) ?_
         refine ⟨(j + 1, r2), ⟨by simp only; omega, step r2 hr2⟩, by simp only; omega, ?_⟩
         simp only [zp]
         exact ⟨⟨rfl, rfl, rfl, rfl, rfl, trivial⟩, .cons (.cons (.cons (.cons .nil))), rfl⟩
   · obtain rfl : j = 16 := by omega
     have hpad : QO bs 16 = Qk bs := rfl
     obtain ⟨hpl1, hpl2⟩ := ZA bs
     rw [hpad] at hR ⊢
     have hN : bs.length + 1 + qr bs.length + 16 = (Qk bs).length := by omega
     rw [hN] at hR ⊢
     have hsha : shaB bs = zd (qA (Qk bs) ((Qk bs).length / 128)) := rfl
     rw [hsha]
     generalize Qk bs = pt at *
     refine ld1 2 rfl (v := ptr b) rfl ?_
     refine ldP 0 rfl (d := (kroots.l.map uv).toArray) rfl rfl ?_
     intro b9
     refine sN 4 rfl rfl rfl ?_ (by kernel_rfl)
     refine inl (C := ⟨Tryz.prog, tab, 110, [], w, none⟩) qc Tryz.func191 rfl Tryz.ntmps191 rfl ?_
     intro b20 b21
     refine ld1 6 rfl (v := .int .i64 128) rfl ?_
     refine cf rfl ?_
     refine bk ?_
     refine rf (C := ⟨Tryz.prog, tab, 110, [], w, none⟩) (α := Unit) (β := Empty) qc rfl rfl rfl (qa9 b20 b21 rb 0 pt.length cap 128 (by decide) (by omega) (by decide) hR.2.1) 4 (fun i _ => cl b9 ((qA pt (i / 128)).l.map uv).toArray 172) (fun y => y.elim) (fun y => y.elim) () rfl
      (fun w' hs => ⟨⟨hs.nth (k := 5) rfl, hs.nth (k := 6) rfl⟩, ?_⟩) ?_ ?_ ?_ (fun y => y.elim)
     · rintro k (hk | rfl | rfl) hw
       · exact hk.elim
       · exact (QG hs.apart (i := 4) (j := 5) rfl rfl (by decide) _).1 hw (by simp)
       · exact (QG hs.apart (i := 4) (j := 6) rfl rfl (by decide) _).1 hw (by simp)
     · rintro i args j ⟨_, _, rfl, _⟩; rfl
     · rintro l i args j x w' ready busy ⟨hi, him, rfl, rfl⟩
       have hi2 : i + 128 ≤ pt.length := by omega
       have hcv : chV rb 0 pt.length 128 i = .slice (some ⟨rb, i, none⟩) 128 128 := by unfold chV; rw [show min 128 (pt.length - i) = 128 by omega, Nat.zero_add]
       rw [hcv]
       have hpi : qA pt ((i + 128) / 128) = Zy (qA pt (i / 128)) ((pt.drop i).take 128) := by
        rw [show (i + 128) / 128 = i / 128 + 1 by omega, qA, show 128 * (i / 128) = i by omega]
       refine ⟨rfl, ?_⟩
       refine ld1 2 rfl (v := ptr b) rfl ?_
       refine ldN 4 rfl rfl ?_
       refine cvs (fun w hs => qcn b tb rb i 128 (Lib.byteCells pt ++ jj).toArray (qA pt (i / 128)) ((pt.drop i).take 128) (by rw [List.length_take, List.length_drop]; omega) (fun q hq => ?_) (Nat.le_refl _) w (hs.nth (k := 0) rfl) (hs.nth (k := 1) rfl) (hs.nth (k := 3) rfl)) ?_
       · rw [List.getElem?_toArray, List.getElem?_append_left (by rw [Lib.byteCells_length]; omega), qaX _ _ (by omega)]
         simp [List.getD, hq]
       refine sN 4 rfl (qbU _ _) (qd2 _) ?_ (by kernel_rfl)
       refine ⟨(), ?_, fun b hb => .inl (by simpa using hb)⟩
       simp only [hpi]
       exact .drop (.drop (.drop (.drop (.cons (.drop (.drop (.cons .nil)))))))
     · intro i y b0 hfin
       obtain rfl : i = pt.length := by omega
       generalize qA pt (pt.length / 128) = S
       refine ldN 4 rfl rfl ?_
       refine lp qc (fun x : Nat × Sx.Own => x.1 ≤ 8 ∧ Rw 1 (8 * x.1) x.2 (Lib.byteCells ((S.l.take x.1).flatMap Qd)))
        (fun x => ⟨[(2, ptr b2), (11, sv x.2 (8 * x.1)), (88, .agg (S.l.map uv).toArray), (89, .int .i64 x.1)], [cr b (shp tb) 344, cl b2 #[ptr b] 342, dfe b0, se x.2 (Lib.byteCells ((S.l.take x.1).flatMap Qd)) 5], [{ target := .collected b0, args := #[] }]⟩) (fun x => 8 - x.1) (0, none)
        ⟨Nat.zero_le _, Rw.nil 1⟩ ⟨⟨rfl, rfl, rfl, rfl, trivial⟩, .cons (.drop (.cons (.drop (.drop (.drop (.drop (.cons (.pad .nil)))))))), rfl⟩ ?_
       rintro ⟨k, r⟩ ⟨hk, hR⟩
       simp only at hk hR
       refine cd (fun h => ?_) (fun h => ?_)
       · have hlt : k < 8 := by omega
         refine ⟨by omega, by omega, .cell (uv (S.l.getD k 0)) rfl (by rw [qh, Nat.mul_one, Int.toNat_natCast]; exact zh S k hlt) ?_⟩
         refine ld1 1 rfl (v := ptr b) rfl ?_
         refine ld1 0 rfl (v := .int .i64 64) rfl ?_
         refine .as 56 (by decide) (by decide) (by decide) ?_
         have hf0 : (S.l.take k).flatMap Qd ++ (Qd (S.l.getD k 0)).take 0 = (S.l.take k).flatMap Qd := by simp
         generalize hx : S.l.getD k 0 = x
         rw [hx] at hf0
         refine lp qc (fun y : Nat × Sx.Own => y.1 ≤ 8 ∧ Rw 1 (8 * k + y.1) y.2 (Lib.byteCells ((S.l.take k).flatMap Qd ++ (Qd x).take y.1)))
          (fun y => ⟨[(2, ptr b2), (11, sv y.2 (8 * k + y.1)), (13, uv x), (14, .int .i64 (56 - 8 * (y.1 : Int))), (88, .agg (S.l.map uv).toArray), (89, .int .i64 k)], [cr b (shp tb) 344, cl b2 #[ptr b] 342, dfe b0, se y.2 (Lib.byteCells ((S.l.take k).flatMap Qd ++ (Qd x).take y.1)) 5], [{ target := .collected b0, args := #[] }]⟩) (fun y => 8 - y.1) (0, r)
          ⟨Nat.zero_le _, by rw [hf0]; exact hR⟩ ⟨⟨rfl, rfl, rfl, rfl, rfl, rfl, trivial⟩, by simp only [hf0]; exact .cons (.cons (.cons (.cons .nil))), rfl⟩ ?_
         clear hR
         rintro ⟨m, r⟩ ⟨hm, hR⟩
         simp only at hm hR
         refine cd (fun h => ?_) (fun h => ?_)
         · have hmt : m < 8 := by omega
           have hE : Lib.byteCells ((S.l.take k).flatMap Qd ++ (Qd x).take (m + 1)) = Lib.byteCells ((S.l.take k).flatMap Qd ++ (Qd x).take m) ++ [.int .u8 (UInt8.ofNat (x.toNat / 2 ^ (56 - 8 * m) % 256)).toNat] := by
            rw [qco x m hmt, ← List.append_assoc, Lib.byteCells_append]; rfl
           refine ⟨by omega, ?_⟩
           refine .to ((UInt8.ofNat (x.toNat / 2 ^ (56 - 8 * m) % 256)).toNat : Int) (by rw [Zs x (56 - 8 * m) (by omega) _ (by omega)]; exact Z5 x m) ?_
           refine .mk #[.int .u8 (UInt8.ofNat (x.toNat / 2 ^ (56 - 8 * m) % 256)).toNat] 5 (fun w => bs5 _ w) (fun bn => ?_)
           refine ap1 (r := r) (n := 8 * k + m) (xs := Lib.byteCells ((S.l.take k).flatMap Qd ++ (Qd x).take m)) 3 4 qc rfl Qj rfl rfl hR rfl rfl (by omega) (by unfold maxLen; omega) (fun r2 hr2 => ?_)
           refine .as (56 - 8 * ((m + 1 : Nat) : Int)) (by omega) (by simp only [mn]; omega) (by simp only [mx]; omega) ?_
           refine ⟨(m + 1, r2), ⟨by simp only; omega, by rw [hE]; exact hr2⟩, by simp only; omega, ?_⟩
           simp only [hE]
           exact ⟨⟨rfl, rfl, rfl, rfl, rfl, rfl, trivial⟩, .cons (.cons (.cons (.cons .nil))), rfl⟩
         · obtain rfl : m = 8 := by omega
           have hE : (S.l.take (k + 1)).flatMap Qd = (S.l.take k).flatMap Qd ++ (Qd x).take 8 := by
            rw [h8_take S k hlt, List.flatMap_append, hx, List.take_of_length_le (show (Qd x).length ≤ 8 by simp [Qd])]; simp
           refine .as ((k + 1 : Nat) : Int) (by omega) (by simp only [mn]; omega) (by simp only [mx]; omega) ?_
           refine ⟨(k + 1, r), ⟨by simp only; omega, by rw [hE]; exact hR⟩, by simp only; omega, ?_⟩
           simp only [hE]
           exact ⟨⟨rfl, rfl, rfl, rfl, trivial⟩, .cons (.cons (.cons (.cons .nil))), rfl⟩
       · obtain rfl : k = 8 := by omega
         refine .mk 2 rfl ?_
         have hE : (S.l.take 8).flatMap Qd = zd S := rfl
         rw [hE] at hR ⊢
         exact ⟨fun w1 hs1 => ⟨r, rfl, hR, Qx hs1 rfl 3 rfl, hs1.below⟩⟩
end
section
open Go.RowKit Go.Sx
def qdg (bs : List UInt8) : Value := .agg (Lib.byteCells bs).toArray
theorem Zj (bs : List UInt8) : (Lib.byteCells bs).toArray.toList.all (·.oneCell') = true := by simp [Lib.byteCells, Value.oneCell']
theorem qex (w : World) : Calls Tryz.prog 138 ([] : List Value).toArray w fun e w' => ∃ b, e = .returned (.slice (some ⟨b, 0, none⟩) 80 80) ∧ w.heap.size ≤ b ∧ w'.heap[b]? = some (.cells (ktab.map uv).toArray 131 (0, 0)) ∧ Below w.heap.size w w' := by
 refine (enter qc Tryz.func138 rfl Tryz.ntmps138 rfl (St.start w) (R := fun v w' => ∃ b, v = .slice (some ⟨b, 0, none⟩) 80 80 ∧ w.heap.size ≤ b ∧ w'.heap[b]? = some (.cells (ktab.map uv).toArray 131 (0, 0)) ∧ Below w.heap.size w w') ?_).mono (fun e w' ⟨v, he, r, hv, h⟩ => ⟨r, by rw [he, hv], h⟩)
 refine .mk (ktab.map uv).toArray 131 (fun w => ?_) (fun bn => ?_)
 · obtain ⟨i, hi, hz, hs, hb⟩ := Qg QE
   exact run_buildSlice w _ _ 80 _ _ i (.int .u64 0) qcO hi hz (by rw [hs]; decide) (by rw [hs]; decide) (by rw [hs]; kernel_rfl)
 · exact ⟨fun w1 hs => ⟨bn, rfl, (hs.own _ (List.mem_of_getElem? (i := 0) rfl) rfl rfl).resolve_right (by simp), hs.nth (k := 0) rfl, hs.below⟩⟩
theorem qeI (w : World) : Calls Tryz.prog 139 ([] : List Value).toArray w fun e w' => e = .returned (.agg (kroots.l.map uv).toArray) ∧ Below w.heap.size w w' := by
 refine qj qc Tryz.func139 rfl Tryz.ntmps139 rfl (St.start w) ?_
 intro b0
 refine bu (c := (kroots.l.map uv).toArray) (by kernel_rfl) ?_
 refine sN 0 rfl rfl rfl ?_ (by kernel_rfl)
 refine ldN 0 rfl rfl ?_
 exact rt rfl
theorem long_any (pb po kc : Nat) (vs : List Value) (xss : List (List Value)) (bs : List UInt8) (hbs : xss.flatten = Lib.byteCells bs) (hlen : vs.length = xss.length) (w : World) (hpb : pb < w.heap.size) (hp : ∀ (i : Nat) (u : Value), vs[i]? = some u → w.cell? ⟨pb, po + i, none⟩ = some u)
 (hx : ∀ (i : Nat) (v : Value) (xs : List Value), vs[i]? = some v → xss[i]? = some xs → Rd w v xs) (hn : bs.length ≤ 1000000) (hk : xss.length ≤ 1000) :
 Calls Tryz.prog 219 ([.slice (some ⟨pb, po, none⟩) xss.length kc] : List Value).toArray w fun e w' => e = .returned (qdg (shaB bs)) ∧ Below w.heap.size w w' := by
 refine qj qc Tryz.func219 rfl Tryz.ntmps219 rfl (St.start w) ?_
 intro b2
 refine cn (fun w' _ => qex w') (fun tb => ?_)
 refine cv (fun w' => qeI w') ?_
 refine bu (c := #[.int .i64 28, .int .i64 34, .int .i64 39]) (by kernel_rfl) ?_
 refine bu (c := #[.int .i64 14, .int .i64 18, .int .i64 41]) (by kernel_rfl) ?_
 refine bu (c := #[.int .i64 1, .int .i64 8, .int .i64 7]) (by kernel_rfl) ?_
 refine bu (c := #[.int .i64 19, .int .i64 61, .int .i64 6]) (by kernel_rfl) ?_
 refine bu (c := #[.int .i64 28, .int .i64 34, .int .i64 39, .int .i64 14, .int .i64 18, .int .i64 41, .int .i64 1, .int .i64 8, .int .i64 7, .int .i64 19, .int .i64 61, .int .i64 6]) (by kernel_rfl) ?_
 refine bu (c := shp tb) (by kernel_rfl) ?_
 intro b
 refine co (fun w' hs => qbt b tb pb po kc vs xss bs hbs hlen w' (Nat.lt_of_lt_of_le hpb hs.below.size) (fun i u hu => (hs.below.cell (p := ⟨pb, po + i, none⟩) hpb).trans (hp i u hu)) (fun i v xs h1 h2 => (hx i v xs h1 h2).below hs.below) hn hk (hs.nth (k := 2) rfl) (hs.nth (k := 1) rfl)) (fun r hr => ?_)
 rcases r with _ | ⟨rb, cap, jj⟩
 · have := hr.2; omega
 have hl : (Lib.byteCells (shaB bs)).length = 64 := by rw [Lib.byteCells_length, shaB_len]
 generalize shaB bs = D at *
 refine ⟨by decide, ?_⟩
 refine ldP 3 rfl (d := (Lib.byteCells D).toArray) (by simpa using hl) (by simp [hl]) ?_
 refine sN 0 rfl (by simp [hl]) (Zj D) ?_ (by kernel_rfl)
 refine ldN 0 rfl (by simp [hl]) ?_
 exact rt rfl
end
end Go.Proofs.YtbgefoamhdgnaaaGreatDoor
namespace Go.Proofs.YtbgefoamhdgnaaaGreatDoor.S
section
open Go.RowKit Go.Sx
def shp (tb cp : Nat) : Array Value := #[.int .i64 32, .slice (some ⟨tb, 0, none⟩) 64 cp, .int .u32 1779033703, .int .u32 3144134277, .int .u32 1013904242, .int .u32 2773480762, .int .u32 1359893119, .int .u32 2600822924, .int .u32 528734635, .int .u32 1541459225, .int .i64 2, .int .i64 13, .int .i64 22, .int .i64 6, .int .i64 11, .int .i64 25, .int .i64 7, .int .i64 18, .int .i64 3, .int .i64 17, .int .i64 19, .int .i64 10, .int .i64 8]
def trn (x n : Int) : Int := Qz .or .u32 (x.fdiv (2 ^ (min n.toNat IntKind.u32.bits))) (x * 2 ^ (min (32 - n).toNat IntKind.u32.bits) % 4294967296)
theorem zx (b : Nat) (c : Array Value) (t : TypeId) (hc : c[0]? = some (.int .i64 32)) (x n : Int) (h0 : 0 ≤ n) (h1 : n ≤ 32) (w : World) (hw : w.heap[b]? = some (.cells c t (0, 0))) :
 Calls Tryz.prog 257 ([.pointer (some ⟨b, 0, none⟩), .int .u32 x, .int .i64 n] : List Value).toArray w fun e w' => e = .returned (.int .u32 (trn x n)) ∧ Below w.heap.size w w' := by
 refine qj qc Tryz.func257 rfl Tryz.ntmps257 rfl (St.reads1 hw) ?_
 refine dr [cr b c t] 99 (.t 0 (.t 1 (.t 2 (.t 3 (.t 4 (.t 5 (.t 6 (.t 7 (.t 8 (.t 9 (.t 10 (.t 11 (.t 12 .nil))))))))))))) qc qe (by kernel_rfl) (by repeat' constructor) ?_
 refine ⟨h0, ?_⟩
 refine ld1 0 rfl hc ?_
 refine .same (by simp only [mn]; omega) (by simp only [mx]; omega) ?_
 refine ⟨by omega, .mod ?_⟩
 exact rt rfl
def qbo (x a b c : Int) (s : Bool) : Int := Qz .xor .u32 (Qz .xor .u32 (trn x a) (trn x b)) (if s then x.fdiv (2 ^ (min c.toNat IntKind.u32.bits)) else trn x c)
theorem qd1 (b tb cp : Nat) (x : Int) (w : World) (hw : w.heap[b]? = some (.cells (shp tb cp) 210 (0, 0))) :
 Calls Tryz.prog 232 ([.pointer (some ⟨b, 0, none⟩), .int .u32 x, .int .i64 0] : List Value).toArray w fun e w' => e = .returned (.int .u32 (qbo x 2 13 22 false)) ∧ Below w.heap.size w w' := by
 have ht := fun (n : Int) h0 h1 w (h : w.heap[b]? = some (.cells (shp tb cp) 210 (0, 0))) => zx b (shp tb cp) 210 rfl x n h0 h1 w h
 refine qj qc Tryz.func232 rfl Tryz.ntmps232 rfl (St.reads1 hw) ?_
 refine ⟨by decide, by decide, ?_⟩
 refine ldP 0 rfl (d := #[.int .i64 2, .int .i64 13, .int .i64 22]) rfl rfl ?_
 intro b1
 refine sN 1 rfl rfl rfl ?_ (by kernel_rfl)
 refine ⟨by decide, by decide, ?_⟩
 refine ld1 1 rfl rfl ?_
 refine cvs (fun w hs => ht _ (by decide) (by decide) w (hs.nth (k := 0) rfl)) ?_
 refine cf (by decide) ?_
 refine dr [cr b (shp tb cp) 210, cl b1 #[.int .i64 2, .int .i64 13, .int .i64 22] 206] 99 (.t 0 (.t 1 (.t 2 (.t 3 (.t 4 (.t 5 (.t 6 (.t 7 (.t 8 (.t 9 (.t 10 (.t 11 (.t 12 (.t 13 .nil)))))))))))))) qc qe (by kernel_rfl) (by repeat' constructor) ?_
 refine ⟨by decide, by decide, ?_⟩
 refine ld1 1 rfl rfl ?_
 refine czs (fun w hs => ht _ (by decide) (by decide) w (hs.nth (k := 0) rfl)) ?_
 refine ⟨by decide, by decide, ?_⟩
 refine ld1 1 rfl rfl ?_
 refine czs (fun w hs => ht _ (by decide) (by decide) w (hs.nth (k := 0) rfl)) ?_
 exact rt rfl
theorem qd0 (b tb cp : Nat) (x : Int) (w : World) (hw : w.heap[b]? = some (.cells (shp tb cp) 210 (0, 0))) :
 Calls Tryz.prog 232 ([.pointer (some ⟨b, 0, none⟩), .int .u32 x, .int .i64 1] : List Value).toArray w fun e w' => e = .returned (.int .u32 (qbo x 6 11 25 false)) ∧ Below w.heap.size w w' := by
 have ht := fun (n : Int) h0 h1 w (h : w.heap[b]? = some (.cells (shp tb cp) 210 (0, 0))) => zx b (shp tb cp) 210 rfl x n h0 h1 w h
 refine qj qc Tryz.func232 rfl Tryz.ntmps232 rfl (St.reads1 hw) ?_
 refine ⟨by decide, by decide, ?_⟩
 refine ldP 0 rfl (d := #[.int .i64 6, .int .i64 11, .int .i64 25]) rfl rfl ?_
 intro b1
 refine sN 1 rfl rfl rfl ?_ (by kernel_rfl)
 refine ⟨by decide, by decide, ?_⟩
 refine ld1 1 rfl rfl ?_
 refine cvs (fun w hs => ht _ (by decide) (by decide) w (hs.nth (k := 0) rfl)) ?_
 refine cf (by decide) ?_
 refine dr [cr b (shp tb cp) 210, cl b1 #[.int .i64 6, .int .i64 11, .int .i64 25] 206] 99 (.t 0 (.t 1 (.t 2 (.t 3 (.t 4 (.t 5 (.t 6 (.t 7 (.t 8 (.t 9 (.t 10 (.t 11 (.t 12 (.t 13 .nil)))))))))))))) qc qe (by kernel_rfl) (by repeat' constructor) ?_
 refine ⟨by decide, by decide, ?_⟩
 refine ld1 1 rfl rfl ?_
 refine czs (fun w hs => ht _ (by decide) (by decide) w (hs.nth (k := 0) rfl)) ?_
 refine ⟨by decide, by decide, ?_⟩
 refine ld1 1 rfl rfl ?_
 refine czs (fun w hs => ht _ (by decide) (by decide) w (hs.nth (k := 0) rfl)) ?_
 exact rt rfl
theorem qdZ (b tb cp : Nat) (x : Int) (w : World) (hw : w.heap[b]? = some (.cells (shp tb cp) 210 (0, 0))) :
 Calls Tryz.prog 232 ([.pointer (some ⟨b, 0, none⟩), .int .u32 x, .int .i64 2] : List Value).toArray w fun e w' => e = .returned (.int .u32 (qbo x 7 18 3 true)) ∧ Below w.heap.size w w' := by
 have ht := fun (n : Int) h0 h1 w (h : w.heap[b]? = some (.cells (shp tb cp) 210 (0, 0))) => zx b (shp tb cp) 210 rfl x n h0 h1 w h
 refine qj qc Tryz.func232 rfl Tryz.ntmps232 rfl (St.reads1 hw) ?_
 refine ⟨by decide, by decide, ?_⟩
 refine ldP 0 rfl (d := #[.int .i64 7, .int .i64 18, .int .i64 3]) rfl rfl ?_
 intro b1
 refine sN 1 rfl rfl rfl ?_ (by kernel_rfl)
 refine ⟨by decide, by decide, ?_⟩
 refine ld1 1 rfl rfl ?_
 refine cvs (fun w hs => ht _ (by decide) (by decide) w (hs.nth (k := 0) rfl)) ?_
 refine ct (by decide) ?_
 refine ⟨by decide, by decide, ?_⟩
 refine ld1 1 rfl rfl ?_
 refine ⟨by decide, ?_⟩
 refine dr [cr b (shp tb cp) 210, cl b1 #[.int .i64 7, .int .i64 18, .int .i64 3] 206] 99 (.t 0 (.t 1 (.t 2 (.t 3 (.t 4 (.t 5 (.t 6 (.t 7 (.t 8 (.t 9 (.t 10 (.t 11 (.t 12 (.t 13 .nil)))))))))))))) qc qe (by kernel_rfl) (by repeat' constructor) ?_
 refine ⟨by decide, by decide, ?_⟩
 refine ld1 1 rfl rfl ?_
 refine czs (fun w hs => ht _ (by decide) (by decide) w (hs.nth (k := 0) rfl)) ?_
 refine ⟨by decide, by decide, ?_⟩
 refine ld1 1 rfl rfl ?_
 refine czs (fun w hs => ht _ (by decide) (by decide) w (hs.nth (k := 0) rfl)) ?_
 exact rt rfl
theorem qdY (b tb cp : Nat) (x : Int) (w : World) (hw : w.heap[b]? = some (.cells (shp tb cp) 210 (0, 0))) :
 Calls Tryz.prog 232 ([.pointer (some ⟨b, 0, none⟩), .int .u32 x, .int .i64 3] : List Value).toArray w fun e w' => e = .returned (.int .u32 (qbo x 17 19 10 true)) ∧ Below w.heap.size w w' := by
 have ht := fun (n : Int) h0 h1 w (h : w.heap[b]? = some (.cells (shp tb cp) 210 (0, 0))) => zx b (shp tb cp) 210 rfl x n h0 h1 w h
 refine qj qc Tryz.func232 rfl Tryz.ntmps232 rfl (St.reads1 hw) ?_
 refine ⟨by decide, by decide, ?_⟩
 refine ldP 0 rfl (d := #[.int .i64 17, .int .i64 19, .int .i64 10]) rfl rfl ?_
 intro b1
 refine sN 1 rfl rfl rfl ?_ (by kernel_rfl)
 refine ⟨by decide, by decide, ?_⟩
 refine ld1 1 rfl rfl ?_
 refine cvs (fun w hs => ht _ (by decide) (by decide) w (hs.nth (k := 0) rfl)) ?_
 refine ct (by decide) ?_
 refine ⟨by decide, by decide, ?_⟩
 refine ld1 1 rfl rfl ?_
 refine ⟨by decide, ?_⟩
 refine dr [cr b (shp tb cp) 210, cl b1 #[.int .i64 17, .int .i64 19, .int .i64 10] 206] 99 (.t 0 (.t 1 (.t 2 (.t 3 (.t 4 (.t 5 (.t 6 (.t 7 (.t 8 (.t 9 (.t 10 (.t 11 (.t 12 (.t 13 .nil)))))))))))))) qc qe (by kernel_rfl) (by repeat' constructor) ?_
 refine ⟨by decide, by decide, ?_⟩
 refine ld1 1 rfl rfl ?_
 refine czs (fun w hs => ht _ (by decide) (by decide) w (hs.nth (k := 0) rfl)) ?_
 refine ⟨by decide, by decide, ?_⟩
 refine ld1 1 rfl rfl ?_
 refine czs (fun w hs => ht _ (by decide) (by decide) w (hs.nth (k := 0) rfl)) ?_
 exact rt rfl
end
section
open Go.RowKit Go.Sx
abbrev Wd := BitVec 32
def ux (x : Wd) : Int := (x.toNat : Int)
def uv (x : Wd) : Value := .int .u32 (ux x)
def rot (x : Wd) (n : Nat) : Wd := x >>> n ||| x <<< (32 - n)
def zo (x : Wd) (a b c : Nat) (s : Bool) : Wd := rot x a ^^^ rot x b ^^^ (if s then x >>> c else rot x c)
theorem ux_lt (x : Wd) : 0 ≤ ux x ∧ ux x < 4294967296 := by unfold ux; have := x.isLt; omega
theorem qdk : (2 : Nat) ^ 32 = 4294967296 := by decide +kernel
theorem qbi (x : Wd) : IntKind.u32.wrap (x.toNat : Int) = ux x := by
 have := x.isLt
 exact qai .u32 _ (by simp only [mn]; omega) (by simp only [mx]; omega)
theorem qca (x : Wd) : BitVec.ofInt 32 (ux x) = x := by unfold ux; rw [BitVec.ofInt_natCast]; simp
theorem qbj (x y : Wd) : Qz .or .u32 (ux x) (ux y) = ux (x ||| y) := by
 show IntKind.u32.wrap ((BitVec.ofInt 32 (ux x) ||| BitVec.ofInt 32 (ux y)).toNat : Int) = _
 rw [qca, qca, qbi]
theorem zf (x y : Wd) : Qz .and .u32 (ux x) (ux y) = ux (x &&& y) := by
 show IntKind.u32.wrap ((BitVec.ofInt 32 (ux x) &&& BitVec.ofInt 32 (ux y)).toNat : Int) = _
 rw [qca, qca, qbi]
theorem QU (x y : Wd) : Qz .xor .u32 (ux x) (ux y) = ux (x ^^^ y) := by
 show IntKind.u32.wrap ((BitVec.ofInt 32 (ux x) ^^^ BitVec.ofInt 32 (ux y)).toNat : Int) = _
 rw [qca, qca, qbi]
theorem u_not (x : Wd) : notI .u32 (ux x) = ux (~~~x) := by
 have h : (if IntKind.u32.signed then -1 else IntKind.u32.max) = ux (BitVec.allOnes 32) := by decide
 unfold notI
 rw [h, QU, BitVec.allOnes_xor]
theorem u_neg (x : Wd) : 4294967295 - ux x = ux (~~~x) := by
 have := x.isLt
 unfold ux; rw [BitVec.toNat_not]; omega
theorem qC (x y : Wd) : (ux x + ux y) % 4294967296 = ux (x + y) := by
 unfold ux; rw [BitVec.toNat_add, qdk, Int.natCast_emod, Int.natCast_add]; rfl
theorem u_mul (x : Wd) (k : Nat) (hk : k < 4294967296) : (ux x * (k : Int)) % 4294967296 = ux (x * BitVec.ofNat 32 k) := by
 unfold ux; rw [BitVec.toNat_mul, BitVec.toNat_ofNat]
 have : k % 2 ^ 32 = k := Nat.mod_eq_of_lt (by omega)
 rw [this, qdk, Int.natCast_emod, Int.natCast_mul]; rfl
theorem Zs (x : Wd) (n : Nat) (hn : n ≤ 32) (i : Int) (hi : i = n) : (ux x).fdiv (2 ^ (min i.toNat IntKind.u32.bits)) = ux (x >>> n) := by
 subst hi
 show (ux x).fdiv (2 ^ (min ((n : Nat) : Int).toNat 32)) = _
 rw [Int.toNat_natCast, Nat.min_eq_left hn, Int.fdiv_eq_ediv_of_nonneg _ (by exact Int.le_of_lt (Int.pow_pos (by decide)))]
 unfold ux; rw [BitVec.toNat_ushiftRight, Nat.shiftRight_eq_div_pow, Int.natCast_ediv, Int.natCast_pow]; rfl
theorem qdj (x : Wd) (n : Nat) (hn : n ≤ 32) (i : Int) (hi : i = n) : (ux x * 2 ^ (min i.toNat IntKind.u32.bits)) % 4294967296 = ux (x <<< n) := by
 subst hi
 show (ux x * 2 ^ (min ((n : Nat) : Int).toNat 32)) % 4294967296 = _
 rw [Int.toNat_natCast, Nat.min_eq_left hn]
 unfold ux; rw [BitVec.toNat_shiftLeft, Nat.shiftLeft_eq, qdk, Int.natCast_emod, Int.natCast_mul, Int.natCast_pow]; rfl
theorem rot_add (x : Wd) (n : Nat) (hn : n < 32) : x >>> n + x <<< (32 - n) = rot x n := by
 unfold rot
 apply BitVec.add_eq_or_of_and_eq_zero
 apply BitVec.eq_of_getLsbD_eq
 intro i hi
 simp only [BitVec.getLsbD_and, BitVec.getLsbD_ushiftRight, BitVec.getLsbD_shiftLeft, BitVec.getLsbD_zero]
 by_cases h : i < 32 - n
 · simp [h]
 · have : x.getLsbD (n + i) = false := BitVec.getLsbD_of_ge _ _ (by omega)
   simp [this]
theorem ch_add (e f g : Wd) : (e &&& f) + (~~~e &&& g) = (e &&& f ||| ~~~e &&& g) := by
 apply BitVec.add_eq_or_of_and_eq_zero
 apply BitVec.eq_of_getLsbD_eq
 intro i hi
 simp only [BitVec.getLsbD_and, BitVec.getLsbD_not, BitVec.getLsbD_zero]
 cases e.getLsbD i <;> simp
def bw (x : Wd) (b : UInt8) : Wd := x <<< 8 ||| BitVec.ofNat 32 b.toNat
theorem qbw (b : UInt8) : ux (BitVec.ofNat 32 b.toNat) = (b.toNat : Int) := by
 have := b.toNat_lt
 unfold ux; rw [BitVec.toNat_ofNat, Nat.mod_eq_of_lt (by omega)]
theorem bw_add (x : Wd) (b : UInt8) : x * BitVec.ofNat 32 256 + BitVec.ofNat 32 b.toNat = bw x b := by
 unfold bw
 have e : x * BitVec.ofNat 32 256 = x <<< 8 := by
  apply BitVec.eq_of_toNat_eq
  rw [BitVec.toNat_shiftLeft, Nat.shiftLeft_eq, BitVec.toNat_mul]; rfl
 rw [e]
 apply BitVec.add_eq_or_of_and_eq_zero
 apply BitVec.eq_of_getLsbD_eq
 intro i hi
 simp only [BitVec.getLsbD_and, BitVec.getLsbD_shiftLeft, BitVec.getLsbD_ofNat]
 by_cases h : i < 8
 · simp [h]
 · have : b.toNat.testBit i = false := by
    apply Nat.testBit_lt_two_pow
    exact Nat.lt_of_lt_of_le b.toNat_lt (Nat.pow_le_pow_right (by decide) (by omega))
   simp [this]
structure H8 where
 (a b c d e f g h : Wd)
def H8.l (s : H8) : List Wd := [s.a, s.b, s.c, s.d, s.e, s.f, s.g, s.h]
def H8.add (s t : H8) : H8 := ⟨s.a + t.a, s.b + t.b, s.c + t.c, s.d + t.d, s.e + t.e, s.f + t.f, s.g + t.g, s.h + t.h⟩
def rndU (s : H8) (k w : Wd) : Wd := s.h + zo s.e 6 11 25 false + (s.e &&& s.f ||| ~~~s.e &&& s.g) + k + w
def rndV (s : H8) : Wd := zo s.a 2 13 22 false + (s.a &&& s.b ||| s.a &&& s.c ||| s.b &&& s.c)
def rnd (s : H8) (k w : Wd) : H8 := ⟨rndU s k w + rndV s, s.a, s.b, s.c, s.d + rndU s k w, s.e, s.f, s.g⟩
def zD (w : List Wd) : Wd := zo (w.getD (w.length - 2) 0) 17 19 10 true + w.getD (w.length - 7) 0 + zo (w.getD (w.length - 15) 0) 7 18 3 true + w.getD (w.length - 16) 0
def qK : Nat → List Wd → List Wd
 | 0, w => w
 | k + 1, w => qK k w ++ [zD (qK k w)]
theorem zR (k : Nat) (w : List Wd) : (qK k w).length = w.length + k := by
 induction k with
 | zero => rfl
 | succ k ih => rw [qK, List.length_append, ih]; simp; omega
def QC (k w : List Wd) (s : H8) : Nat → H8
 | 0 => s
 | t + 1 => rnd (QC k w s t) (k.getD t 0) (w.getD t 0)
def be (bs : List UInt8) : Wd := bs.foldl bw 0
theorem qb6 (bs : List UInt8) (b : UInt8) : be (bs ++ [b]) = bw (be bs) b := by unfold be; rw [List.foldl_append]; rfl
def qp (p : List UInt8) : List Wd := (List.range 16).map fun t => be ((p.drop (4 * t)).take 4)
def ktab : List Wd := [0x428a2f98, 0x71374491, 0xb5c0fbcf, 0xe9b5dba5, 0x3956c25b, 0x59f111f1, 0x923f82a4, 0xab1c5ed5, 0xd807aa98, 0x12835b01, 0x243185be, 0x550c7dc3, 0x72be5d74, 0x80deb1fe, 0x9bdc06a7, 0xc19bf174, 0xe49b69c1, 0xefbe4786, 0x0fc19dc6, 0x240ca1cc, 0x2de92c6f, 0x4a7484aa, 0x5cb0a9dc, 0x76f988da, 0x983e5152, 0xa831c66d, 0xb00327c8, 0xbf597fc7, 0xc6e00bf3, 0xd5a79147, 0x06ca6351, 0x14292967, 0x27b70a85, 0x2e1b2138, 0x4d2c6dfc, 0x53380d13, 0x650a7354, 0x766a0abb, 0x81c2c92e, 0x92722c85, 0xa2bfe8a1, 0xa81a664b, 0xc24b8b70, 0xc76c51a3, 0xd192e819, 0xd6990624, 0xf40e3585, 0x106aa070, 0x19a4c116, 0x1e376c08, 0x2748774c, 0x34b0bcb5, 0x391c0cb3, 0x4ed8aa4a, 0x5b9cca4f, 0x682e6ff3, 0x748f82ee, 0x78a5636f, 0x84c87814, 0x8cc70208, 0x90befffa, 0xa4506ceb, 0xbef9a3f7, 0xc67178f2]
def kroots : H8 := ⟨0x6a09e667, 0xbb67ae85, 0x3c6ef372, 0xa54ff53a, 0x510e527f, 0x9b05688c, 0x1f83d9ab, 0x5be0cd19⟩
def Zy (s : H8) (p : List UInt8) : H8 := s.add (QC ktab (qK 48 (qp p)) s 64)
def qA (t : List UInt8) : Nat → H8
 | 0 => kroots
 | i + 1 => Zy (qA t i) ((t.drop (64 * i)).take 64)
def qL (n j : Nat) : UInt8 := UInt8.ofNat (8 * n / 256 ^ (7 - j) % 256)
def qr (n : Nat) : Nat := (119 - n % 64) % 64
def Qk (bs : List UInt8) : List UInt8 := bs ++ [128] ++ List.replicate (qr bs.length) 0 ++ (List.range 8).map (qL bs.length)
theorem ZA (bs : List UInt8) : (Qk bs).length % 64 = 0 ∧ (Qk bs).length = bs.length + 9 + qr bs.length := by
 unfold Qk qr
 simp only [List.length_append, List.length_replicate, List.length_map, List.length_range, List.length_cons, List.length_nil]
 omega
def Qd (x : Wd) : List UInt8 := (List.range 4).map fun i => UInt8.ofNat (x.toNat / 2 ^ (24 - 8 * i) % 256)
def zd (s : H8) : List UInt8 := s.l.flatMap Qd
def shaB (bs : List UInt8) : List UInt8 := zd (qA (Qk bs) ((Qk bs).length / 64))
theorem shaB_len (bs : List UInt8) : (shaB bs).length = 32 := by
 unfold shaB zd
 simp [H8.l, Qd]
theorem ZB : ktab.length = 64 := by decide +kernel
end
section
open Go.RowKit Go.Sx
theorem qdl (x : Wd) (n : Nat) (hn : n ≤ 32) (i : Int) (hi : i = n) : trn (ux x) i = ux (rot x n) := by
 unfold trn rot
 rw [Zs x n hn i hi, qdj x (32 - n) (by omega) (32 - i) (by omega), qbj]
theorem mixv_w (x : Wd) (a b c : Nat) (s : Bool) (ha : a ≤ 32) (hb : b ≤ 32) (hc : c ≤ 32) : qbo (ux x) a b c s = ux (zo x a b c s) := by
 unfold qbo zo
 rw [qdl x a ha _ rfl, qdl x b hb _ rfl, QU, qdl x c hc _ rfl, Zs x c hc _ rfl]
 cases s <;> exact QU _ _
def qm (ws : List Wd) (n : Nat) : Array Value := (ws.map uv ++ List.replicate n (Value.int .u32 0)).toArray
theorem QT (ws : List Wd) (n i : Nat) (h : i < ws.length) : (qm ws n)[i]? = some (uv (ws.getD i 0)) := by
 unfold qm
 rw [List.getElem?_toArray, List.getElem?_append_left (by simpa using h)]
 simp [h]
theorem tbj_at (ws : List Wd) (jk : List Value) (i : Nat) (h : i < ws.length) : (ws.map uv ++ jk).toArray[i]? = some (uv (ws.getD i 0)) := by
 rw [List.getElem?_toArray, List.getElem?_append_left (by simpa using h)]
 simp [h]
theorem tb_at (ws : List Wd) (i : Nat) (h : i < ws.length) : (ws.map uv).toArray[i]? = some (uv (ws.getD i 0)) := by
 simp [h]
theorem QJ {α : Type} (x : α) (A B : List α) (h : A.length = B.length) (i : Nat) (hi : i < A.length) (hx : A[i]? = some x) : (A.take i ++ B.drop i).set i x = A.take (i + 1) ++ B.drop (i + 1) := by
 have hb : i < B.length := by omega
 rw [List.set_append_right _ _ (by simp; omega), List.length_take, Nat.min_eq_left (by omega), Nat.sub_self, List.drop_eq_getElem_cons hb, List.set_cons_zero, List.take_add_one, hx]
 simp
theorem qaO {α : Type} (A B : List α) (i : Nat) (hi : i ≤ A.length) : (A.take i ++ B.drop i)[i]? = B[i]? := by
 rw [List.getElem?_append_right (by simp; omega), List.length_take, Nat.min_eq_left hi, Nat.sub_self, List.getElem?_drop]; simp
theorem zh (s : H8) (i : Nat) (h : i < 8) : (s.l.map uv).toArray[i]? = some (uv (s.l.getD i 0)) := tb_at _ _ h
theorem qej (s r : H8) (i : Nat) (h : i < 8) : (s.add r).l.getD i 0 = s.l.getD i 0 + r.l.getD i 0 := by
 match i, h with
 | 0, _ => rfl | 1, _ => rfl | 2, _ => rfl | 3, _ => rfl | 4, _ => rfl | 5, _ => rfl | 6, _ => rfl | 7, _ => rfl
theorem qbO (b tb cp : Nat) (k : Int) (n1 n2 n3 : Nat) (f : Bool) (h1 : n1 ≤ 32) (h2 : n2 ≤ 32) (h3 : n3 ≤ 32)
 (h : ∀ (x : Int) (w : World), w.heap[b]? = some (.cells (shp tb cp) 210 (0, 0)) → Calls Tryz.prog 232 ([.pointer (some ⟨b, 0, none⟩), .int .u32 x, .int .i64 k] : List Value).toArray w fun e w' => e = .returned (.int .u32 (qbo x n1 n2 n3 f)) ∧ Below w.heap.size w w') (x : Wd) (w : World) (hw : w.heap[b]? = some (.cells (shp tb cp) 210 (0, 0))) :
 Calls Tryz.prog 232 ([ptr b, uv x, .int .i64 k] : List Value).toArray w fun e w' => e = .returned (uv (zo x n1 n2 n3 f)) ∧ Below w.heap.size w w' := by
 rw [uv, uv, ← mixv_w x n1 n2 n3 f h1 h2 h3]; exact h (ux x) w hw
theorem QE : (Tryz.prog.info? 127).map (fun i => (i.zero, i.size, i.bytes)) = some (some (.int .u32 0), 1, 4) := by kernel_rfl
theorem qcO : Tryz.prog.underlying 208 = some (.slice 127) := by kernel_rfl
theorem bs34 (x : Int) (w : World) : (Instr.buildSlice 208 1 #[(0, .int .u32 x)]).run Tryz.prog w = .ok (.slice (some ⟨w.heap.size, 0, none⟩) 1 1) (w.alloc (.cells #[.int .u32 x] 127)) := by
 obtain ⟨i, hi, hz, hs, hb⟩ := Qg QE
 exact run_buildSlice w _ _ 1 _ #[.int .u32 x] i (.int .u32 0) qcO hi hz (by rw [hs]; decide) (by rw [hs]; decide) (by rw [hs]; kernel_rfl)
theorem Zp (p : List UInt8) (hp : p.length = 64) (k : Nat) (hk : k < 16) : (qp p).take (k + 1) = (qp p).take k ++ [be ((p.drop (4 * k)).take 4)] := by
 unfold qp
 rw [List.take_add_one]
 simp [hk]
theorem qaT (p : List UInt8) (hp : p.length = 64) (i j : Nat) (hi : i + 4 ≤ 64) (hj : j < 4) : ((p.drop i).take 4).take (j + 1) = ((p.drop i).take 4).take j ++ [p.getD (i + j) 0] := by
 rw [List.take_add_one]
 congr 1
 have : i + j < p.length := by omega
 simp [hj, List.getElem?_drop, this, List.getD]
theorem qcn (b tb cp pb po cap : Nat) (jk : List Value) (c : Array Value) (s : H8) (p : List UInt8) (hp : p.length = 64) (hcp : ∀ i, i < 64 → c[po + i]? = some (.int .u8 (p.getD i 0).toNat)) (hcap : 64 ≤ cap) (w : World)
 (hw : w.heap[b]? = some (.cells (shp tb cp) 210 (0, 0))) (ht : w.heap[tb]? = some (.cells (ktab.map uv ++ jk).toArray 127 (0, 0))) (hpb : w.heap[pb]? = some (.cells c 5 (0, 0))) :
 Calls Tryz.prog 192 ([ptr b, .agg (s.l.map uv).toArray, .slice (some ⟨pb, po, none⟩) 64 cap] : List Value).toArray w fun e w' => e = .returned (.agg ((Zy s p).l.map uv).toArray) ∧ Below w.heap.size w w' := by
 have hmk := fun w => made1 (P := Tryz.prog) w qcO QE rfl 0 64 (by decide) (by decide) (by decide)
 refine qj qc Tryz.func192 rfl Tryz.ntmps192 rfl (St.reads (L := [cr b (shp tb cp) 210, cr tb (ktab.map uv ++ jk).toArray 127, cr pb c 5]) (by simp [hw, ht, hpb])) ?_
 intro b4 b6
 refine ld1 0 rfl (v := .int .i64 32) rfl ?_
 refine ⟨by decide, by decide, by decide, ?_⟩
 refine ld1 0 rfl (v := .slice (some ⟨tb, 0, none⟩) 64 cp) rfl ?_
 refine .mk 0 64 _ _ hmk fun wb => ?_
 intro b8
 refine s1 6 rfl (show 0 < 1 by decide) ?_
 refine inl (C := ⟨Tryz.prog, tab, 194, [], w, none⟩) qc Tryz.func191 rfl Tryz.ntmps191 rfl ?_
 intro b2 b3
 refine ld1 8 rfl (v := .int .i64 4) rfl ?_
 refine cf rfl ?_
 refine bk ?_
 have hL : List.Perm ([cr b (shp tb cp) 210, cr tb (ktab.map uv ++ jk).toArray 127, cr pb c 5, cl b4 (s.l.map uv).toArray 128, cl b6 (List.replicate 8 (Value.int .u32 0)).toArray 128, cl b2 #[.slice (some ⟨pb, po, none⟩) 64 cap] 48, cl b3 #[.int .i64 4] 3] ++ [cl wb (qm [] 64) 127, cl b8 #[.slice (some ⟨wb, 0, none⟩) 0 64] 208]) [cr b (shp tb cp) 210, cr tb (ktab.map uv ++ jk).toArray 127, cr pb c 5, cl b4 (s.l.map uv).toArray 128, cl b6 (List.replicate 8 (Value.int .u32 0)).toArray 128, cl wb (qm [] 64) 127, cl b8 #[.slice (some ⟨wb, 0, none⟩) 0 64] 208, cl b2 #[.slice (some ⟨pb, po, none⟩) 64 cap] 48, cl b3 #[.int .i64 4] 3] := .append_left [_, _, _, _, _] (List.perm_append_comm (l₁ := [_, _]) (l₂ := [_, _]))
 refine rfm (C := ⟨Tryz.prog, tab, 194, [], w, none⟩) (L0 := [cr b (shp tb cp) 210, cr tb (ktab.map uv ++ jk).toArray 127, cr pb c 5, cl b4 (s.l.map uv).toArray 128, cl b6 (List.replicate 8 (Value.int .u32 0)).toArray 128, cl b2 #[.slice (some ⟨pb, po, none⟩) 64 cap] 48, cl b3 #[.int .i64 4] 3]) (α := Unit) (β := Empty) qc rfl rfl rfl
  (qa9 b2 b3 pb po 64 cap 4 (by decide) (by decide) (by decide) hcap) (fun i _ => [cl wb (qm ((qp p).take (i / 4)) (64 - i / 4)) 127, cl b8 #[.slice (some ⟨wb, 0, none⟩) (i / 4) 64] 208]) (fun y => y.elim) (fun y => y.elim) () ?_
  (fun w' hs => ⟨⟨hs.nth (k := 5) rfl, hs.nth (k := 6) rfl⟩, ?_⟩) ?_ ?_ ?_ (fun y => y.elim)
 · refine List.Perm.trans ?_ (List.Perm.trans hL ?_)
   · exact .of_eq rfl
   · exact .of_eq rfl
 · rintro k (hk | rfl | rfl) e he hw
   · exact hk.elim
   · simp only [List.mem_cons, List.not_mem_nil, or_false] at he
     rcases he with rfl | rfl
     · exact (QG hs.apart (i := 7) (j := 5) rfl rfl (by decide) _).1 hw (by simp)
     · exact (QG hs.apart (i := 8) (j := 5) rfl rfl (by decide) _).1 hw (by simp)
   · simp only [List.mem_cons, List.not_mem_nil, or_false] at he
     rcases he with rfl | rfl
     · exact (QG hs.apart (i := 7) (j := 6) rfl rfl (by decide) _).1 hw (by simp)
     · exact (QG hs.apart (i := 8) (j := 6) rfl rfl (by decide) _).1 hw (by simp)
 · rintro i args j ⟨_, _, rfl, _⟩; rfl
 · rintro l i args j x w' ready busy ⟨hi, him, rfl, rfl⟩
   have hwt := Zp p hp (i / 4) (by omega)
   have h8i : 4 * (i / 4) = i := by omega
   rw [h8i] at hwt
   have hj8 : (i + 4) / 4 = i / 4 + 1 := by omega
   have hch := fun j hj => qaT p hp i j (by omega) hj
   have hcv : chV pb po 64 4 i = .slice (some ⟨pb, po + i, none⟩) 4 4 := by unfold chV; rw [show min 4 (64 - i) = 4 by omega]
   rw [hcv]
   refine ⟨rfl, ?_⟩
   refine lp qc (fun j : Nat => j ≤ 4) (fun j => ⟨[(8, ptr b8), (9, .slice (some ⟨pb, po + i, none⟩) 4 4), (10, uv (be (((p.drop i).take 4).take j))), (43, .slice (some ⟨pb, po + i, none⟩) 4 4), (44, .int .i64 4), (45, .int .i64 j)],
    [dead, dead, ⟨pb, some (.cells c 5 (0, 0)), true, none⟩, dead, dead, dead, dead, cl wb (qm ((qp p).take (i / 4)) (64 - i / 4)) 127, cl b8 #[.slice (some ⟨wb, 0, none⟩) (i / 4) 64] 208, ⟨l, some busy, false, none⟩], []⟩) (fun j => 4 - j) 0 (Nat.zero_le _)
    ⟨⟨rfl, rfl, rfl, rfl, rfl, rfl, trivial⟩, .dead (.dead (.cons (.dead (.dead (.dead (.dead (.cons (.cons (.cons .nil))))))))), rfl⟩ ?_
   intro j hj
   refine cd (fun h => ?_) (fun h => ?_)
   · have hjl : j < 4 := by omega
     refine ⟨by omega, by omega, ?_⟩
     refine ld1 2 rfl (v := .int .u8 (p.getD (i + j) 0).toNat) (by rw [qi, qh, ← hcp (i + j) (by omega)]; congr 1; simp; omega) ?_
     have hb := (p.getD (i + j) 0).toNat_lt
     refine ⟨by decide, .to (ux (be (((p.drop i).take 4).take j) <<< 8)) (qdj _ 8 (by decide) _ rfl) ?_⟩
     refine .same (by simp only [mn]; omega) (by simp only [mx]; omega) ?_
     refine .same (by simp only [mn]; omega) (by simp only [mx]; omega) ?_
     refine ⟨j + 1, by omega, by omega, ⟨⟨rfl, rfl, congrArg (fun x => some (Value.int .u32 x)) (a₁ := Qz .or .u32 (ux (be (((p.drop i).take 4).take j) <<< 8)) ((p.getD (i + j) 0).toNat : Int)) ?_, rfl, rfl, rfl, trivial⟩, .refl _, rfl⟩⟩
     rw [hch j hjl, qb6]
     exact (by rw [← qbw, qbj]; rfl)
   · obtain rfl : j = 4 := by omega
     rw [List.take_take, Nat.min_self]
     refine ld1 8 rfl (v := .slice (some ⟨wb, 0, none⟩) (i / 4) 64) rfl ?_
     refine .mk #[uv (be ((p.drop i).take 4))] 127 (fun w => bs34 _ w) (fun bn => ?_)
     have hwl : ((qp p).take (i / 4)).length = i / 4 := by rw [List.length_take, show (qp p).length = 16 by simp [qp]]; omega
     refine apI1 (xs := ((qp p).take (i / 4)).map uv) (j := List.replicate (64 - i / 4) (Value.int .u32 0)) 7 10 qc rfl QE rfl (by rw [List.length_map, hwl]) (by rw [List.length_append, List.length_map, hwl, List.length_replicate]; omega) (by omega) rfl rfl ?_
     refine s1 8 rfl (show 0 < 1 by decide) ?_
     have hE : qm ((qp p).take ((i + 4) / 4)) (64 - (i + 4) / 4) = (((qp p).take (i / 4)).map uv ++ [uv (be ((p.drop i).take 4))] ++ (List.replicate (64 - i / 4) (Value.int .u32 0)).drop 1).toArray := by
      rw [hj8, hwt, qm, List.map_append, List.drop_replicate, show 64 - (i / 4 + 1) = 64 - i / 4 - 1 by omega]; rfl
     refine ⟨(), ?_, fun e he k hk => .inl ?_⟩
     · show Sub ([cl wb (qm ((qp p).take ((i + 4) / 4)) (64 - (i + 4) / 4)) 127, cl b8 #[.slice (some ⟨wb, 0, none⟩) ((i + 4) / 4) 64] 208] ++ [_]) _
       rw [hE, hj8]
       exact .drop (.drop (.drop (.drop (.drop (.drop (.drop (.cons (.cons (.cons .nil)))))))))
     · simp only [List.mem_cons, List.not_mem_nil, or_false] at he
       rcases he with rfl | rfl
       · exact ⟨_, List.mem_cons_self, by simpa using hk⟩
       · exact ⟨_, List.mem_cons_of_mem _ List.mem_cons_self, by simpa using hk⟩
 · intro i y b0 hfin
   obtain ⟨h1, h2, h3⟩ := hfin
   obtain rfl : i = 64 := by omega
   have hm0 := qbO b tb cp 0 2 13 22 false (by decide) (by decide) (by decide) (fun x w h => qd1 b tb cp x w h)
   have hm1 := qbO b tb cp 1 6 11 25 false (by decide) (by decide) (by decide) (fun x w h => qd0 b tb cp x w h)
   have hm2 := qbO b tb cp 2 7 18 3 true (by decide) (by decide) (by decide) (fun x w h => qdZ b tb cp x w h)
   have hm3 := qbO b tb cp 3 17 19 10 true (by decide) (by decide) (by decide) (fun x w h => qdY b tb cp x w h)
   have hwl : (qp p).length = 16 := by simp [qp]
   have hgl := fun k => zR k (qp p)
   rw [hwl] at hgl
   have ht16 : (qp p).take (64 / 4) = qp p := List.take_of_length_le (by omega)
   rw [ht16]
   refine lp qc (fun k : Nat => k ≤ 48) (fun k => ⟨[(0, ptr b), (4, ptr b4), (6, ptr b6), (8, ptr b8), (13, .int .i64 (16 + k : Nat))],
    [cr b (shp tb cp) 210, cr tb (ktab.map uv ++ jk).toArray 127, cl b4 (s.l.map uv).toArray 128, cl b6 (List.replicate 8 (Value.int .u32 0)).toArray 128, cl wb (qm (qK k (qp p)) (48 - k)) 127, cl b8 #[.slice (some ⟨wb, 0, none⟩) (16 + k) 64] 208, dfe b0], [{ target := .collected b0, args := #[] }]⟩) (fun k => 48 - k) 0 (Nat.zero_le _)
    ⟨⟨rfl, rfl, rfl, rfl, rfl, trivial⟩, .cons (.cons (.drop (.cons (.cons (.drop (.drop (.cons (.cons (.cons .nil))))))))), rfl⟩ ?_
   intro k hk
   have hgk := hgl k
   refine ld1 0 rfl (v := .slice (some ⟨tb, 0, none⟩) 64 cp) rfl ?_
   refine cd (fun h => ?_) (fun h => ?_)
   · have hlt : k < 48 := by omega
     refine drs [cr b (shp tb cp) 210, cr tb (ktab.map uv ++ jk).toArray 127, cl b4 (s.l.map uv).toArray 128, cl b6 (List.replicate 8 (Value.int .u32 0)).toArray 128, cl wb (qm (qK k (qp p)) (48 - k)) 127, cl b8 #[.slice (some ⟨wb, 0, none⟩) (16 + k) 64] 208] [29, 30] (.t 0 (.t 1 (.t 2 (.t 3 (.t 4 (.t 5 (.t 6 (.t 7 (.t 8 (.t 9 (.t 10 (.t 11 (.t 12 (.t 13 (.t 14 (.t 15 (.t 16 (.t 17 (.t 18 (.t 19 (.t 20 (.t 21 (.t 22 (.t 23 (.t 24 (.t 25 (.t 26 (.t 27 (.n 28 (.n 29 (.n 30 .nil))))))))))))))))))))))))))))))) qc qe (by kernel_rfl) (.cons (.cons (.cons (.cons (.cons (.cons .nil)))))) ?_
     refine ld1 5 rfl (v := .slice (some ⟨wb, 0, none⟩) (16 + k) 64) rfl ?_
     refine ld1 5 rfl (v := .slice (some ⟨wb, 0, none⟩) (16 + k) 64) rfl ?_
     refine .as ((16 + k - 2 : Nat) : Int) (by omega) (by simp only [mn]; omega) (by simp only [mx]; omega) ?_
     refine ⟨by omega, by omega, ?_⟩
     refine ld1 4 rfl (v := uv ((qK k (qp p)).getD (16 + k - 2) 0)) (by rw [qi, qh, Nat.zero_add, Nat.mul_one, Int.toNat_natCast]; exact QT _ _ _ (by omega)) ?_
     refine czs (fun w hs => hm3 _ w (hs.nth (k := 0) rfl)) ?_
     refine ld1 5 rfl (v := .slice (some ⟨wb, 0, none⟩) (16 + k) 64) rfl ?_
     refine .as ((16 + k - 7 : Nat) : Int) (by omega) (by simp only [mn]; omega) (by simp only [mx]; omega) ?_
     refine ⟨by omega, by omega, ?_⟩
     refine ld1 4 rfl (v := uv ((qK k (qp p)).getD (16 + k - 7) 0)) (by rw [qi, qh, Nat.zero_add, Nat.mul_one, Int.toNat_natCast]; exact QT _ _ _ (by omega)) ?_
     refine .to _ (qC _ _) ?_
     refine ld1 5 rfl (v := .slice (some ⟨wb, 0, none⟩) (16 + k) 64) rfl ?_
     refine .as ((16 + k - 15 : Nat) : Int) (by omega) (by simp only [mn]; omega) (by simp only [mx]; omega) ?_
     refine ⟨by omega, by omega, ?_⟩
     refine ld1 4 rfl (v := uv ((qK k (qp p)).getD (16 + k - 15) 0)) (by rw [qi, qh, Nat.zero_add, Nat.mul_one, Int.toNat_natCast]; exact QT _ _ _ (by omega)) ?_
     refine czs (fun w hs => hm2 _ w (hs.nth (k := 0) rfl)) ?_
     refine .to _ (qC _ _) ?_
     refine ld1 5 rfl (v := .slice (some ⟨wb, 0, none⟩) (16 + k) 64) rfl ?_
     refine .as ((16 + k - 16 : Nat) : Int) (by omega) (by simp only [mn]; omega) (by simp only [mx]; omega) ?_
     refine ⟨by omega, by omega, ?_⟩
     refine ld1 4 rfl (v := uv ((qK k (qp p)).getD (16 + k - 16) 0)) (by rw [qi, qh, Nat.zero_add, Nat.mul_one, Int.toNat_natCast]; exact QT _ _ _ (by omega)) ?_
     refine .to _ (qC _ _) ?_
     refine .mk #[uv (zD (qK k (qp p)))] 127 (fun w => ?_) (fun bn => ?_)
     · unfold zD; rw [hgk]; exact bs34 _ w
     refine ⟨.cons (.cons (.cons (.cons (.cons (.cons .nil))))), ?_⟩
     refine apI1 (xs := (qK k (qp p)).map uv) (j := List.replicate (48 - k) (Value.int .u32 0)) 4 7 qc rfl QE rfl (by rw [List.length_map, hgk]) (by rw [List.length_append, List.length_map, hgk, List.length_replicate]; omega) (by omega) rfl rfl ?_
     refine s1 5 rfl (show 0 < 1 by decide) ?_
     refine .as ((16 + (k + 1) : Nat) : Int) (by omega) (by simp only [mn]; omega) (by simp only [mx]; omega) ?_
     have hE : qm (qK (k + 1) (qp p)) (48 - (k + 1)) = ((qK k (qp p)).map uv ++ [uv (zD (qK k (qp p)))] ++ (List.replicate (48 - k) (Value.int .u32 0)).drop 1).toArray := by
      rw [qK, qm, List.map_append, List.drop_replicate, show 48 - (k + 1) = 48 - k - 1 by omega]; rfl
     refine ⟨k + 1, by omega, by omega, ?_⟩
     rw [hE]
     exact ⟨⟨rfl, rfl, rfl, rfl, rfl, trivial⟩, .cons (.cons (.cons (.cons (.cons (.cons (.cons .nil)))))), rfl⟩
   · obtain rfl : k = 48 := by omega
     generalize hws : qK 48 (qp p) = ws at *
     refine drs [dead, dead, cl b4 (s.l.map uv).toArray 128] [] (.t 0 (.t 1 (.t 2 (.t 3 (.t 4 (.t 5 (.t 6 (.t 7 (.t 8 (.t 9 (.t 10 (.t 11 (.t 12 (.t 13 (.t 14 (.t 15 (.t 16 (.t 17 (.t 18 (.t 19 (.t 20 (.t 21 (.t 22 (.t 23 .nil)))))))))))))))))))))))) qc qe (by kernel_rfl) (.dead (.dead (.cons .nil))) ?_
     refine ⟨by decide, by decide, ld1 2 rfl (v := uv s.a) rfl ?_⟩
     refine ⟨by decide, by decide, ld1 2 rfl (v := uv s.b) rfl ?_⟩
     refine ⟨by decide, by decide, ld1 2 rfl (v := uv s.c) rfl ?_⟩
     refine ⟨by decide, by decide, ld1 2 rfl (v := uv s.d) rfl ?_⟩
     refine ⟨by decide, by decide, ld1 2 rfl (v := uv s.e) rfl ?_⟩
     refine ⟨by decide, by decide, ld1 2 rfl (v := uv s.f) rfl ?_⟩
     refine ⟨by decide, by decide, ld1 2 rfl (v := uv s.g) rfl ?_⟩
     refine ⟨by decide, by decide, ld1 2 rfl (v := uv s.h) rfl ?_⟩
     refine ld1 0 rfl (v := .slice (some ⟨tb, 0, none⟩) 64 cp) rfl ?_
     refine lp qc (fun t : Nat => t ≤ 64) (fun t => ⟨[(0, ptr b), (4, ptr b4), (6, ptr b6), (8, ptr b8), (14, uv (QC ktab ws s t).a), (15, uv (QC ktab ws s t).b), (16, uv (QC ktab ws s t).c), (17, uv (QC ktab ws s t).d), (18, uv (QC ktab ws s t).e), (19, uv (QC ktab ws s t).f), (20, uv (QC ktab ws s t).g), (21, uv (QC ktab ws s t).h),
      (117, .slice (some ⟨tb, 0, none⟩) 64 cp), (118, .int .i64 64), (119, .int .i64 t)],
      [cr b (shp tb cp) 210, cr tb (ktab.map uv ++ jk).toArray 127, cl b4 (s.l.map uv).toArray 128, cl b6 (List.replicate 8 (Value.int .u32 0)).toArray 128, cl wb (qm ws 0) 127, cl b8 #[.slice (some ⟨wb, 0, none⟩) 64 64] 208, dfe b0], [{ target := .collected b0, args := #[] }]⟩) (fun t => 64 - t) 0 (Nat.zero_le _)
      ⟨⟨rfl, rfl, rfl, rfl, rfl, rfl, rfl, rfl, rfl, rfl, rfl, rfl, rfl, rfl, rfl, trivial⟩, .refl _, rfl⟩ ?_
     intro t ht
     refine cd (fun h => ?_) (fun h => ?_)
     · have hlt : t < 64 := by omega
       refine ⟨by omega, by omega, ?_⟩
       refine ld1 1 rfl (v := uv (ktab.getD t 0)) (by rw [qi, qh, Nat.zero_add, Nat.mul_one, Int.toNat_natCast]; exact tbj_at _ _ _ (by rw [ZB]; omega)) ?_
       have hst : QC ktab ws s (t + 1) = rnd (QC ktab ws s t) (ktab.getD t 0) (ws.getD t 0) := rfl
       generalize QC ktab ws s t = st at *
       refine drs [cr b (shp tb cp) 210, dead, dead, dead, cl wb (qm ws 0) 127, cl b8 #[.slice (some ⟨wb, 0, none⟩) 64 64] 208] [] (.t 0 (.t 1 (.t 2 (.t 3 (.t 4 (.t 5 (.t 6 (.t 7 (.t 8 (.t 9 (.t 10 (.t 11 (.t 12 (.t 13 (.t 14 (.t 15 (.t 16 (.t 17 (.t 18 (.t 19 (.t 20 (.t 21 .nil)))))))))))))))))))))) qc qe (by kernel_rfl) (.cons (.dead (.dead (.dead (.cons (.cons .nil)))))) ?_
       refine czs (fun w hs => hm1 _ w (hs.nth (k := 0) rfl)) ?_
       refine .to _ (qC _ _) ?_
       refine .to (ux (st.h + zo st.e 6 11 25 false + (st.e &&& st.f ||| ~~~st.e &&& st.g))) (by rw [u_not, zf, zf, qbj]; exact qC _ _) ?_
       refine .to _ (qC _ _) ?_
       refine ld1 5 rfl (v := .slice (some ⟨wb, 0, none⟩) 64 64) rfl ?_
       refine ⟨by omega, by omega, ?_⟩
       refine ld1 4 rfl (v := uv (ws.getD t 0)) (by rw [qi, qh, Nat.zero_add, Nat.mul_one, Int.toNat_natCast]; exact QT _ _ _ (by omega)) ?_
       refine .to _ (qC _ _) ?_
       refine cvs (fun w hs => hm0 _ w (hs.nth (k := 0) rfl)) ?_
       refine .to (ux (zo st.a 2 13 22 false + (st.a &&& st.b ||| st.a &&& st.c ||| st.b &&& st.c))) (by rw [zf, zf, zf, qbj, qbj]; exact qC _ _) ?_
       refine .to _ (qC _ _) ?_
       refine .to _ (qC _ _) ?_
       refine .as ((t + 1 : Nat) : Int) (by omega) (by simp only [mn]; omega) (by simp only [mx]; omega) ?_
       refine ⟨t + 1, by omega, by omega, ?_⟩
       simp only [hst]
       exact ⟨⟨rfl, rfl, rfl, rfl, rfl, rfl, rfl, rfl, rfl, rfl, rfl, rfl, rfl, rfl, rfl, trivial⟩, .refl _, rfl⟩
     · obtain rfl : t = 64 := by omega
       obtain ⟨r, hr⟩ : ∃ r, r = QC ktab ws s 64 := ⟨_, rfl⟩
       have hpc : Zy s p = s.add r := by unfold Zy; rw [hws, ← hr]
       rw [hpc]
       simp only [← hr]
       refine bu (c := (r.l.map uv).toArray) (by kernel_rfl) ?_
       refine lp qc (fun i : Nat => i ≤ 8) (fun i => ⟨[(0, ptr b), (4, ptr b4), (6, ptr b6), (181, .agg (r.l.map uv).toArray), (182, .int .i64 i)],
        [dead, dead, cl b4 (((s.add r).l.map uv).take i ++ (s.l.map uv).drop i).toArray 128, cl b6 (List.replicate 8 (Value.int .u32 0)).toArray 128, dead, dead, dfe b0], [{ target := .collected b0, args := #[] }]⟩) (fun i => 8 - i) 0 (Nat.zero_le _)
        ⟨⟨rfl, rfl, rfl, rfl, rfl, trivial⟩, .dead (.dead (.cons (.cons (.dead (.dead (.cons .nil)))))), rfl⟩ ?_
       intro i hi
       refine cd (fun h => ?_) (fun h => ?_)
       · have hlt : i < 8 := by omega
         refine ⟨by omega, by omega, .cell (uv (r.l.getD i 0)) rfl (by rw [qh, Nat.mul_one, Int.toNat_natCast]; exact zh r i hlt) ?_⟩
         refine ⟨by omega, by omega, ?_⟩
         refine ld1 2 rfl (v := uv (s.l.getD i 0)) (by rw [qi, qh, Nat.zero_add, Nat.mul_one, Int.toNat_natCast, List.getElem?_toArray, qaO _ _ _ (by simp [H8.l]; omega), ← List.getElem?_toArray]; exact zh s i hlt) ?_
         refine .to _ (qC _ _) ?_
         refine ⟨by omega, by omega, ?_⟩
         refine s1 2 rfl (by rw [qi, qh, Nat.zero_add, Nat.mul_one, Int.toNat_natCast]; simp [H8.l]; omega) ?_
         refine .as ((i + 1 : Nat) : Int) (by omega) (by simp only [mn]; omega) (by simp only [mx]; omega) ?_
         have hE : (((s.add r).l.map uv).take (i + 1) ++ (s.l.map uv).drop (i + 1)).toArray = (((s.add r).l.map uv).take i ++ (s.l.map uv).drop i).toArray.setIfInBounds (nad 0 (nmu (Int.toNat (i : Int)) 1)) (uv (s.l.getD i 0 + r.l.getD i 0)) := by
          rw [qi, qh, Nat.zero_add, Nat.mul_one, Int.toNat_natCast, List.setIfInBounds_toArray, ← qej s r i hlt, QJ _ _ _ (by simp [H8.l]) i (by simp [H8.l]; omega) (by rw [← List.getElem?_toArray]; exact zh _ i hlt)]
         refine ⟨i + 1, by omega, by omega, ?_⟩
         rw [hE]
         exact ⟨⟨rfl, rfl, rfl, rfl, rfl, trivial⟩, .dead (.dead (.cons (.cons (.dead (.dead (.cons .nil)))))), rfl⟩
       · obtain rfl : i = 8 := by omega
         have hE : (((s.add r).l.map uv).take 8 ++ (s.l.map uv).drop 8).toArray = ((s.add r).l.map uv).toArray := rfl
         rw [hE]
         refine ldN 2 rfl rfl ?_
         refine sN 3 rfl rfl rfl ?_ (by kernel_rfl)
         refine .mk 6 rfl ?_
         refine ldN 3 rfl rfl ?_
         exact rt rfl
end
section
open Go.RowKit Go.Sx
theorem bs5 (x : Int) (w : World) : (Instr.buildSlice 48 1 #[(0, .int .u8 x)]).run Tryz.prog w = .ok (.slice (some ⟨w.heap.size, 0, none⟩) 1 1) (w.alloc (.cells #[.int .u8 x] 5)) := by
 obtain ⟨i, hi, hz, hs, hb⟩ := Qg Qj
 exact run_buildSlice w _ _ 1 _ #[.int .u8 x] i (.int .u8 0) (by kernel_rfl) hi hz (by rw [hs]; decide) (by rw [hs]; decide) (by rw [hs]; kernel_rfl)
theorem qay (b : UInt8) : Lib.byteCells [b] = [.int .u8 b.toNat] := rfl
theorem qaX (bs : List UInt8) (i : Nat) (h : i < bs.length) : (Lib.byteCells bs)[i]? = some (.int .u8 (bs.getD i 0).toNat) := by simp [Lib.byteCells, h]
theorem qaH (k : Nat) : List.replicate (k + 1) (0 : UInt8) = List.replicate k 0 ++ [0] := List.replicate_succ'
theorem qce (n j : Nat) : (List.range (j + 1)).map (qL n) = (List.range j).map (qL n) ++ [qL n j] := by rw [List.range_succ, List.map_append]; rfl
theorem shrI (a i : Nat) (hi : i ≤ 64) (x : Int) (hx : x = i) : (a : Int).fdiv (2 ^ (min x.toNat IntKind.u64.bits)) = ((a / 2 ^ i : Nat) : Int) := by
 subst hx
 show (a : Int).fdiv (2 ^ (min ((i : Nat) : Int).toNat 64)) = _
 rw [Int.toNat_natCast, Nat.min_eq_left hi, Int.fdiv_eq_ediv_of_nonneg _ (by exact Int.le_of_lt (Int.pow_pos (by decide))), Int.natCast_ediv, Int.natCast_pow]; rfl
theorem zK (n j : Nat) : (qL n j).toNat = 8 * n / 256 ^ (7 - j) % 256 := by
 unfold qL; rw [UInt8.toNat_ofNat']; omega
def QO (bs : List UInt8) (j : Nat) : List UInt8 := bs ++ [128] ++ List.replicate (qr bs.length) 0 ++ (List.range j).map (qL bs.length)
theorem zp (bs : List UInt8) (j : Nat) : Lib.byteCells (QO bs (j + 1)) = Lib.byteCells (QO bs j) ++ [.int .u8 (qL bs.length j).toNat] := by
 unfold QO; rw [qce, ← List.append_assoc, Lib.byteCells_append]; rfl
theorem qco (x : Wd) (m : Nat) (h : m < 4) : (Qd x).take (m + 1) = (Qd x).take m ++ [UInt8.ofNat (x.toNat / 2 ^ (24 - 8 * m) % 256)] := by
 unfold Qd
 rw [List.take_add_one]
 simp [h]
theorem Z5 (x : Wd) (m : Nat) : modk .u8 (ux (x >>> (24 - 8 * m))) = ((UInt8.ofNat (x.toNat / 2 ^ (24 - 8 * m) % 256)).toNat : Int) := by
 rw [UInt8.toNat_ofNat']
 unfold ux
 rw [BitVec.toNat_ushiftRight, Nat.shiftRight_eq_div_pow]
 show ((_ : Nat) : Int) % 256 = _
 omega
theorem qbU (s t : H8) : (s.l.map uv).toArray.size = (t.l.map uv).toArray.size := rfl
theorem qd2 (s : H8) : (s.l.map uv).toArray.toList.all (·.oneCell') = true := rfl
theorem h8_take (s : H8) (k : Nat) (hk : k < 8) : s.l.take (k + 1) = s.l.take k ++ [s.l.getD k 0] := by
 have : k < s.l.length := hk
 rw [List.take_add_one, List.getElem?_eq_getElem this]; simp [List.getD, this]
theorem qdo {n : Nat} {r : Sx.Own} {xs : List Value} (h : Rw 1 n r xs) : ∃ a c, sv r n = .slice a n c := by
 rcases r with _ | ⟨b, c, j⟩
 · obtain rfl : n = 0 := h.2; exact ⟨_, _, rfl⟩
 · exact ⟨_, _, rfl⟩
theorem qbt (b tb cp pb po kc : Nat) (jk : List Value) (vs : List Value) (xss : List (List Value)) (bs : List UInt8) (hbs : xss.flatten = Lib.byteCells bs) (hlen : vs.length = xss.length) (w : World) (hpb : pb < w.heap.size) (hp : ∀ (i : Nat) (u : Value), vs[i]? = some u → w.cell? ⟨pb, po + i, none⟩ = some u)
 (hx : ∀ (i : Nat) (v : Value) (xs : List Value), vs[i]? = some v → xss[i]? = some xs → Rd w v xs) (hn : bs.length ≤ 1000000) (hk : xss.length ≤ 1000)
 (hw : w.heap[b]? = some (.cells (shp tb cp) 210 (0, 0))) (ht : w.heap[tb]? = some (.cells (ktab.map uv ++ jk).toArray 127 (0, 0))) :
 Calls Tryz.prog 140 ([ptr b, .slice (some ⟨pb, po, none⟩) xss.length kc] : List Value).toArray w fun e w' => ∃ r, e = .returned (sv r 32) ∧ Rw 1 32 r (Lib.byteCells (shaB bs)) ∧ zq w w' r (Lib.byteCells (shaB bs)) 5 ∧ Below w.heap.size w w' := by
 have hcc := fun w' (hs : Below w.heap.size w w') => qbu pb po kc vs xss hlen w' (Nat.lt_of_lt_of_le hpb hs.size) (fun i u hu => (hs.cell (p := ⟨pb, po + i, none⟩) hpb).trans (hp i u hu)) (fun i v xs h1 h2 => (hx i v xs h1 h2).below hs)
  (fun xs hxs u hu => by
   have : u ∈ xss.flatten := List.mem_flatten.2 ⟨xs, hxs, hu⟩
   rw [hbs] at this
   simp only [Lib.byteCells, List.mem_map] at this
   obtain ⟨_, _, rfl⟩ := this; rfl) (by rw [hbs, Lib.byteCells_length]; omega) hk
 rw [hbs, Lib.byteCells_length] at hcc
 refine (enter qc Tryz.func140 rfl Tryz.ntmps140 rfl (St.reads (L := [cr b (shp tb cp) 210, cr tb (ktab.map uv ++ jk).toArray 127]) (by simp [hw, ht])) (R := fun v w' => ∃ r, v = sv r 32 ∧ Rw 1 32 r (Lib.byteCells (shaB bs)) ∧ zq w w' r (Lib.byteCells (shaB bs)) 5 ∧ Below w.heap.size w w') ?_).mono (fun e w' ⟨v, he, r, hv, h⟩ => ⟨r, by rw [he, hv], h⟩)
 intro b2
 refine co (fun w' hs => hcc w' hs.below) (fun r hr => ?_)
 obtain ⟨sa, sc, hsv⟩ := qdo hr
 rw [hsv]
 refine .same (by simp only [mn]; omega) (by simp only [mx]; omega) ?_
 rw [← hsv]
 refine ld1 2 rfl (v := ptr b) rfl ?_
 refine ld1 0 rfl (v := .int .i64 32) rfl ?_
 refine .as 512 (by decide) (by decide) (by decide) ?_
 refine ⟨by decide, by decide, by decide, ?_⟩
 refine .mk #[.int .u8 128] 5 (fun w => bs5 _ w) (fun bn => ?_)
 refine ap1 (xs := Lib.byteCells bs) 3 4 qc rfl Qj rfl rfl hr rfl rfl (by omega) (by unfold maxLen; omega) (fun r1 hr1 => ?_)
 refine lp qc (fun x : Nat × Sx.Own => x.1 ≤ qr bs.length ∧ Rw 1 (bs.length + 1 + x.1) x.2 (Lib.byteCells (bs ++ [128] ++ List.replicate x.1 0)))
  (fun x => ⟨[(2, ptr b2), (5, sv x.2 (bs.length + 1 + x.1)), (6, .int .u64 bs.length), (7, .int .i64 64)], [cr b (shp tb cp) 210, cr tb (ktab.map uv ++ jk).toArray 127, cl b2 #[ptr b] 205, se x.2 (Lib.byteCells (bs ++ [128] ++ List.replicate x.1 0)) 5], []⟩) (fun x => qr bs.length - x.1) (0, r1)
  ⟨Nat.zero_le _, by simpa [Lib.byteCells_append, qay] using hr1⟩ ⟨⟨rfl, rfl, rfl, rfl, trivial⟩, ?_, rfl⟩ ?_
 · simp only [List.replicate_zero, List.append_nil, Lib.byteCells_append, qay]
   exact .cons (.cons (.cons (.cons .nil)))
 rintro ⟨k, r⟩ ⟨hk1, hR⟩
 simp only at hk1 hR
 rcases r with _ | ⟨rb, cap, jj⟩
 · have := hR.2; omega
 have hfl : qr bs.length < 64 := by unfold qr; omega
 refine drs [cr b (shp tb cp) 210, dead, cl b2 #[ptr b] 205] [] (.t 0 (.t 1 (.t 2 (.t 3 (.t 4 (.t 5 (.t 6 (.t 7 (.t 8 (.t 9 (.t 10 .nil))))))))))) qc qe (by kernel_rfl) (.cons (.dead (.cons .nil))) ?_
 refine ⟨by omega, by simp only [mx]; omega, by decide, ?_⟩
 refine ld1 2 rfl (v := ptr b) rfl ?_
 refine ld1 0 rfl (v := .int .i64 8) rfl ?_
 refine .as 56 (by decide) (by decide) (by decide) ?_
 refine cne (fun h => ?_) (fun h => ?_)
 · have hlt : k < qr bs.length := by
    rcases Nat.lt_or_ge k (qr bs.length) with h1 | h1
    · exact h1
    · exfalso; apply h; obtain rfl : k = qr bs.length := by omega
      unfold qr; omega
   refine .mk #[.int .u8 0] 5 (fun w => bs5 _ w) (fun bn => ?_)
   refine ap1 (r := some (rb, cap, jj)) (xs := Lib.byteCells (bs ++ [128] ++ List.replicate k 0)) 3 4 qc rfl Qj rfl rfl hR rfl rfl (by omega) (by unfold maxLen; omega) (fun r2 hr2 => ?_)
   have e1 : Lib.byteCells (bs ++ [128] ++ List.replicate (k + 1) 0) = Lib.byteCells (bs ++ [128] ++ List.replicate k 0) ++ [.int .u8 0] := by
    rw [qaH, ← List.append_assoc, Lib.byteCells_append]; rfl
   rw [← e1] at hr2
   refine ⟨(k + 1, r2), ⟨by simp only; omega, hr2⟩, by simp only; omega, ?_⟩
   simp only [e1]
   exact ⟨⟨rfl, rfl, rfl, rfl, trivial⟩, .cons (.cons (.cons (.cons .nil))), rfl⟩
 · obtain rfl : k = qr bs.length := by
    unfold qr at hk1 ⊢; omega
   refine ld1 2 rfl (v := ptr b) rfl ?_
   refine ld1 0 rfl (v := .int .i64 8) rfl ?_
   refine .as 7 (by decide) (by decide) (by decide) ?_
   have hb0 : QO bs 0 = bs ++ [128] ++ List.replicate (qr bs.length) 0 := by simp [QO]
   rw [← hb0] at hR ⊢
   refine lp qc (fun x : Nat × Sx.Own => x.1 ≤ 8 ∧ Rw 1 (bs.length + 1 + qr bs.length + x.1) x.2 (Lib.byteCells (QO bs x.1)))
    (fun x => ⟨[(2, ptr b2), (5, sv x.2 (bs.length + 1 + qr bs.length + x.1)), (6, .int .u64 bs.length), (7, .int .i64 64), (8, .int .i64 (7 - (x.1 : Int)))], [cr b (shp tb cp) 210, cr tb (ktab.map uv ++ jk).toArray 127, cl b2 #[ptr b] 205, se x.2 (Lib.byteCells (QO bs x.1)) 5], []⟩) (fun x => 8 - x.1) (0, some (rb, cap, jj))
    ⟨Nat.zero_le _, hR⟩ ⟨⟨rfl, rfl, rfl, rfl, rfl, trivial⟩, .cons (.cons (.cons (.cons .nil))), rfl⟩ ?_
   clear hR
   rintro ⟨j, r⟩ ⟨hj, hR⟩
   simp only at hj hR
   rcases r with _ | ⟨rb, cap, jj⟩
   · have := hR.2; omega
   have step : ∀ (r2 : Sx.Own), Rw 1 (bs.length + 1 + qr bs.length + j + 1) r2 (Lib.byteCells (QO bs j) ++ [.int .u8 (qL bs.length j).toNat]) → Rw 1 (bs.length + 1 + qr bs.length + (j + 1)) r2 (Lib.byteCells (QO bs (j + 1))) := by
    intro r2 h; rw [zp]; exact h
   refine cd (fun h => ?_) (fun h => ?_)
   · have hlt : j < 8 := by omega
     refine cd (fun h2 => ?_) (fun h2 => ?_)
     · exfalso; omega
     · refine cq (fun h3 => ?_) (fun h3 => ?_)
       · exfalso; omega
       · refine ⟨by decide, .as ((8 * bs.length : Nat) : Int) (by show (bs.length : Int) * 2 ^ 3 = _; omega) (by simp only [mn]; omega) (by simp only [mx]; omega) ?_⟩
         refine .as ((8 * (7 - j) : Nat) : Int) (by omega) (by simp only [mn]; omega) (by simp only [mx]; omega) ?_
         refine ⟨by omega, ?_⟩
         refine .to ((qL bs.length j).toNat : Int) (by rw [shrI _ (8 * (7 - j)) (by omega) _ rfl, zK, Nat.pow_mul]; rfl) ?_
         refine .mk #[.int .u8 (qL bs.length j).toNat] 5 (fun w => bs5 _ w) (fun bn => ?_)
         refine ap1 (r := some (rb, cap, jj)) (xs := Lib.byteCells (QO bs j)) 3 4 qc rfl Qj rfl rfl hR rfl rfl (by omega) (by unfold maxLen; omega) (fun r2 hr2 => ?_)
         refine .as (7 - ((j + 1 : Nat) : Int)) (by omega) (by simp only [mn]; omega) (by simp only [mx]; omega) ?_
         refine ⟨(j + 1, r2), ⟨by simp only; omega, step r2 hr2⟩, by simp only; omega, ?_⟩
         simp only [zp]
         exact ⟨⟨rfl, rfl, rfl, rfl, rfl, trivial⟩, .cons (.cons (.cons (.cons .nil))), rfl⟩
   · obtain rfl : j = 8 := by omega
     have hpad : QO bs 8 = Qk bs := rfl
     obtain ⟨hpl1, hpl2⟩ := ZA bs
     rw [hpad] at hR ⊢
     have hN : bs.length + 1 + qr bs.length + 8 = (Qk bs).length := by omega
     rw [hN] at hR ⊢
     have hsha : shaB bs = zd (qA (Qk bs) ((Qk bs).length / 64)) := rfl
     rw [hsha]
     generalize Qk bs = pt at *
     refine ld1 2 rfl (v := ptr b) rfl ?_
     refine ldP 0 rfl (d := (kroots.l.map uv).toArray) rfl rfl ?_
     intro b9
     refine sN 4 rfl rfl rfl ?_ (by kernel_rfl)
     refine inl (C := ⟨Tryz.prog, tab, 110, [], w, none⟩) qc Tryz.func191 rfl Tryz.ntmps191 rfl ?_
     intro b20 b21
     refine ld1 6 rfl (v := .int .i64 64) rfl ?_
     refine cf rfl ?_
     refine bk ?_
     refine rf (C := ⟨Tryz.prog, tab, 110, [], w, none⟩) (α := Unit) (β := Empty) qc rfl rfl rfl (qa9 b20 b21 rb 0 pt.length cap 64 (by decide) (by omega) (by decide) hR.2.1) 4 (fun i _ => cl b9 ((qA pt (i / 64)).l.map uv).toArray 128) (fun y => y.elim) (fun y => y.elim) () rfl
      (fun w' hs => ⟨⟨hs.nth (k := 5) rfl, hs.nth (k := 6) rfl⟩, ?_⟩) ?_ ?_ ?_ (fun y => y.elim)
     · rintro k (hk | rfl | rfl) hw
       · exact hk.elim
       · exact (QG hs.apart (i := 4) (j := 5) rfl rfl (by decide) _).1 hw (by simp)
       · exact (QG hs.apart (i := 4) (j := 6) rfl rfl (by decide) _).1 hw (by simp)
     · rintro i args j ⟨_, _, rfl, _⟩; rfl
     · rintro l i args j x w' ready busy ⟨hi, him, rfl, rfl⟩
       have hi2 : i + 64 ≤ pt.length := by omega
       have hcv : chV rb 0 pt.length 64 i = .slice (some ⟨rb, i, none⟩) 64 64 := by unfold chV; rw [show min 64 (pt.length - i) = 64 by omega, Nat.zero_add]
       rw [hcv]
       have hpi : qA pt ((i + 64) / 64) = Zy (qA pt (i / 64)) ((pt.drop i).take 64) := by
        rw [show (i + 64) / 64 = i / 64 + 1 by omega, qA, show 64 * (i / 64) = i by omega]
       refine ⟨rfl, ?_⟩
       refine ld1 2 rfl (v := ptr b) rfl ?_
       refine ldN 4 rfl rfl ?_
       refine cvs (fun w hs => qcn b tb cp rb i 64 jk (Lib.byteCells pt ++ jj).toArray (qA pt (i / 64)) ((pt.drop i).take 64) (by rw [List.length_take, List.length_drop]; omega) (fun q hq => ?_) (Nat.le_refl _) w (hs.nth (k := 0) rfl) (hs.nth (k := 1) rfl) (hs.nth (k := 3) rfl)) ?_
       · rw [List.getElem?_toArray, List.getElem?_append_left (by rw [Lib.byteCells_length]; omega), qaX _ _ (by omega)]
         simp [List.getD, hq]
       refine sN 4 rfl (qbU _ _) (qd2 _) ?_ (by kernel_rfl)
       refine ⟨(), ?_, fun b hb => .inl (by simpa using hb)⟩
       simp only [hpi]
       exact .drop (.drop (.drop (.drop (.cons (.drop (.drop (.cons .nil)))))))
     · intro i y b0 hfin
       obtain rfl : i = pt.length := by omega
       generalize qA pt (pt.length / 64) = S
       refine ldN 4 rfl rfl ?_
       refine lp qc (fun x : Nat × Sx.Own => x.1 ≤ 8 ∧ Rw 1 (4 * x.1) x.2 (Lib.byteCells ((S.l.take x.1).flatMap Qd)))
        (fun x => ⟨[(2, ptr b2), (11, sv x.2 (4 * x.1)), (88, .agg (S.l.map uv).toArray), (89, .int .i64 x.1)], [cr b (shp tb cp) 210, cl b2 #[ptr b] 205, dfe b0, se x.2 (Lib.byteCells ((S.l.take x.1).flatMap Qd)) 5], [{ target := .collected b0, args := #[] }]⟩) (fun x => 8 - x.1) (0, none)
        ⟨Nat.zero_le _, Rw.nil 1⟩ ⟨⟨rfl, rfl, rfl, rfl, trivial⟩, .cons (.drop (.cons (.drop (.drop (.drop (.drop (.cons (.pad .nil)))))))), rfl⟩ ?_
       rintro ⟨k, r⟩ ⟨hk, hR⟩
       simp only at hk hR
       refine cd (fun h => ?_) (fun h => ?_)
       · have hlt : k < 8 := by omega
         refine ⟨by omega, by omega, .cell (uv (S.l.getD k 0)) rfl (by rw [qh, Nat.mul_one, Int.toNat_natCast]; exact zh S k hlt) ?_⟩
         refine ld1 1 rfl (v := ptr b) rfl ?_
         refine ld1 0 rfl (v := .int .i64 32) rfl ?_
         refine .as 24 (by decide) (by decide) (by decide) ?_
         have hf0 : (S.l.take k).flatMap Qd ++ (Qd (S.l.getD k 0)).take 0 = (S.l.take k).flatMap Qd := by simp
         generalize hx : S.l.getD k 0 = x
         rw [hx] at hf0
         refine lp qc (fun y : Nat × Sx.Own => y.1 ≤ 4 ∧ Rw 1 (4 * k + y.1) y.2 (Lib.byteCells ((S.l.take k).flatMap Qd ++ (Qd x).take y.1)))
          (fun y => ⟨[(2, ptr b2), (11, sv y.2 (4 * k + y.1)), (13, uv x), (14, .int .i64 (24 - 8 * (y.1 : Int))), (88, .agg (S.l.map uv).toArray), (89, .int .i64 k)], [cr b (shp tb cp) 210, cl b2 #[ptr b] 205, dfe b0, se y.2 (Lib.byteCells ((S.l.take k).flatMap Qd ++ (Qd x).take y.1)) 5], [{ target := .collected b0, args := #[] }]⟩) (fun y => 4 - y.1) (0, r)
          ⟨Nat.zero_le _, by rw [hf0]; exact hR⟩ ⟨⟨rfl, rfl, rfl, rfl, rfl, rfl, trivial⟩, by simp only [hf0]; exact .cons (.cons (.cons (.cons .nil))), rfl⟩ ?_
         clear hR
         rintro ⟨m, r⟩ ⟨hm, hR⟩
         simp only at hm hR
         refine cd (fun h => ?_) (fun h => ?_)
         · have hmt : m < 4 := by omega
           have hE : Lib.byteCells ((S.l.take k).flatMap Qd ++ (Qd x).take (m + 1)) = Lib.byteCells ((S.l.take k).flatMap Qd ++ (Qd x).take m) ++ [.int .u8 (UInt8.ofNat (x.toNat / 2 ^ (24 - 8 * m) % 256)).toNat] := by
            rw [qco x m hmt, ← List.append_assoc, Lib.byteCells_append]; rfl
           refine ⟨by omega, ?_⟩
           refine .to ((UInt8.ofNat (x.toNat / 2 ^ (24 - 8 * m) % 256)).toNat : Int) (by rw [Zs x (24 - 8 * m) (by omega) _ (by omega)]; exact Z5 x m) ?_
           refine .mk #[.int .u8 (UInt8.ofNat (x.toNat / 2 ^ (24 - 8 * m) % 256)).toNat] 5 (fun w => bs5 _ w) (fun bn => ?_)
           refine ap1 (r := r) (n := 4 * k + m) (xs := Lib.byteCells ((S.l.take k).flatMap Qd ++ (Qd x).take m)) 3 4 qc rfl Qj rfl rfl hR rfl rfl (by omega) (by unfold maxLen; omega) (fun r2 hr2 => ?_)
           refine .as (24 - 8 * ((m + 1 : Nat) : Int)) (by omega) (by simp only [mn]; omega) (by simp only [mx]; omega) ?_
           refine ⟨(m + 1, r2), ⟨by simp only; omega, by rw [hE]; exact hr2⟩, by simp only; omega, ?_⟩
           simp only [hE]
           exact ⟨⟨rfl, rfl, rfl, rfl, rfl, rfl, trivial⟩, .cons (.cons (.cons (.cons .nil))), rfl⟩
         · obtain rfl : m = 4 := by omega
           have hE : (S.l.take (k + 1)).flatMap Qd = (S.l.take k).flatMap Qd ++ (Qd x).take 4 := by
            rw [h8_take S k hlt, List.flatMap_append, hx, List.take_of_length_le (show (Qd x).length ≤ 4 by simp [Qd])]; simp
           refine .as ((k + 1 : Nat) : Int) (by omega) (by simp only [mn]; omega) (by simp only [mx]; omega) ?_
           refine ⟨(k + 1, r), ⟨by simp only; omega, by rw [hE]; exact hR⟩, by simp only; omega, ?_⟩
           simp only [hE]
           exact ⟨⟨rfl, rfl, rfl, rfl, trivial⟩, .cons (.cons (.cons (.cons .nil))), rfl⟩
       · obtain rfl : k = 8 := by omega
         refine .mk 2 rfl ?_
         have hE : (S.l.take 8).flatMap Qd = zd S := rfl
         rw [hE] at hR ⊢
         exact ⟨fun w1 hs1 => ⟨r, rfl, hR, Qx hs1 rfl 3 rfl, hs1.below⟩⟩
end
section
open Go.RowKit Go.Sx
abbrev K64 : List (BitVec 64) := Go.Proofs.YtbgefoamhdgnaaaGreatDoor.ktab
abbrev R64 : List (BitVec 64) := Go.Proofs.YtbgefoamhdgnaaaGreatDoor.H8.l Go.Proofs.YtbgefoamhdgnaaaGreatDoor.kroots
abbrev uw (x : BitVec 64) : Value := .int .u64 (x.toNat : Int)
theorem tab_half : ∀ i, i < 64 → (ktab.getD i 0).toNat = (K64.getD i 0).toNat / 4294967296 := by decide +kernel
theorem qeJ : ∀ i, i < 8 → (kroots.l.getD i 0).toNat = (R64.getD i 0).toNat / 4294967296 := by decide +kernel
theorem k64_len : K64.length = 80 := by decide +kernel
def shq (tv : Value) (f : List Value) : Array Value := (.int .i64 32 :: tv :: (f ++ [.int .i64 2, .int .i64 13, .int .i64 22, .int .i64 6, .int .i64 11, .int .i64 25, .int .i64 7, .int .i64 18, .int .i64 3, .int .i64 17, .int .i64 19, .int .i64 10, .int .i64 8])).toArray
def Z8 : List Value := List.replicate 8 (.int .u32 0)
theorem shq_setf (tv : Value) (f : List Value) (i : Nat) (hi : i < f.length) (v : Value) : (shq tv f).setIfInBounds (2 + i) v = shq tv (f.set i v) := by
 apply Array.ext'
 unfold shq
 rw [Array.toList_setIfInBounds]
 show List.set (_ :: _ :: _) _ _ = _
 rw [show 2 + i = (i + 1) + 1 by omega, List.set_cons_succ, List.set_cons_succ, List.set_append_left _ _ hi]
theorem sv_cell (r : Sx.Own) (n : Nat) : (sv r n).oneCell' = true ∧ (sv r n).cells = #[sv r n] := by rcases r with _ | ⟨_, _, _⟩ <;> exact ⟨rfl, rfl⟩
theorem half_u (x : BitVec 64) (y : Wd) (h : y.toNat = x.toNat / 4294967296) : modk .u32 (((x.toNat : Nat) : Int).fdiv (2 ^ (min (32 : Int).toNat IntKind.u64.bits))) = ux y := by
 have e := shrI x.toNat 32 (by decide) 32 rfl
 rw [e]
 have := y.isLt
 show ((x.toNat / 2 ^ 32 : Nat) : Int) % 4294967296 = (y.toNat : Int)
 rw [show (2 : Nat) ^ 32 = 4294967296 by decide, ← h]; omega
theorem ks_snoc (i : Nat) (hi : i < 64) : (ktab.take (i + 1)).map uv = (ktab.take i).map uv ++ [uv (ktab.getD i 0)] := by
 have h : i < ktab.length := by rw [ZB]; exact hi
 rw [List.take_succ_eq_append_getElem h, List.map_append]; simp [List.getD, h]
theorem short_any (pb po kc : Nat) (vs : List Value) (xss : List (List Value)) (bs : List UInt8) (hbs : xss.flatten = Lib.byteCells bs) (hlen : vs.length = xss.length) (w : World) (hpb : pb < w.heap.size) (hp : ∀ (i : Nat) (u : Value), vs[i]? = some u → w.cell? ⟨pb, po + i, none⟩ = some u)
 (hx : ∀ (i : Nat) (v : Value) (xs : List Value), vs[i]? = some v → xss[i]? = some xs → Rd w v xs) (hn : bs.length ≤ 1000000) (hk : xss.length ≤ 1000) :
 Calls Tryz.prog 94 ([.slice (some ⟨pb, po, none⟩) xss.length kc] : List Value).toArray w fun e w' => e = .returned (.agg (Lib.byteCells (shaB bs)).toArray) ∧ Below w.heap.size w w' := by
 refine qj qc Tryz.func94 rfl Tryz.ntmps94 rfl (St.start w) ?_
 intro b2
 refine bu (c := #[.int .i64 2, .int .i64 13, .int .i64 22]) (by kernel_rfl) ?_
 refine bu (c := #[.int .i64 6, .int .i64 11, .int .i64 25]) (by kernel_rfl) ?_
 refine bu (c := #[.int .i64 7, .int .i64 18, .int .i64 3]) (by kernel_rfl) ?_
 refine bu (c := #[.int .i64 17, .int .i64 19, .int .i64 10]) (by kernel_rfl) ?_
 refine bu (c := #[.int .i64 2, .int .i64 13, .int .i64 22, .int .i64 6, .int .i64 11, .int .i64 25, .int .i64 7, .int .i64 18, .int .i64 3, .int .i64 17, .int .i64 19, .int .i64 10]) (by kernel_rfl) ?_
 refine bu (c := shq (.slice none 0 0) Z8) (by kernel_rfl) ?_
 intro b
 refine cn (fun w' _ => qex w') (fun tb => ?_)
 refine ZH (k := 64) (fun a ha => by injection ha with ha; subst ha; rfl) (by decide) (by decide) ?_
 refine lp qc (fun x : Nat × Sx.Own => x.1 ≤ 64 ∧ Rw 1 x.1 x.2 ((ktab.take x.1).map uv)) (fun x => ⟨[(0, .slice (some ⟨pb, po, none⟩) xss.length kc), (2, ptr b2), (3, ptr b), (16, .slice (some ⟨tb, 0, none⟩) 64 80), (17, .int .i64 64), (18, .int .i64 x.1)],
  [cl b2 (List.replicate 32 (Value.int .u8 0)).toArray 39, cl b (shq (sv x.2 x.1) Z8) 210, cl tb (K64.map uw).toArray 131, se x.2 ((ktab.take x.1).map uv) 127], []⟩) (fun x => 64 - x.1) (0, none) ⟨by decide, Rw.nil 1⟩ ⟨⟨rfl, rfl, rfl, rfl, rfl, rfl, trivial⟩, .cons (.cons (.cons (.pad .nil))), rfl⟩ ?_
 rintro ⟨i, r⟩ ⟨hi, hR⟩
 simp only at hi hR
 refine cd (fun h => ?_) (fun h => ?_)
 · have hlt : i < 64 := by (try simp only at h); omega
   refine ⟨by (try simp only); omega, by (try simp only); omega, ?_⟩
   refine ld1 2 rfl (v := uw (K64.getD i 0)) (by rw [qi, qh, Nat.zero_add, Nat.mul_one, Int.toNat_natCast, List.getElem?_toArray]; simp [show i < K64.length by rw [k64_len]; omega]) ?_
   refine ld1 1 rfl (v := sv r i) rfl ?_
   refine ⟨by decide, ?_⟩
   refine .to (ux (ktab.getD i 0)) (half_u _ _ (tab_half i hlt)) ?_
   refine .mk #[uv (ktab.getD i 0)] 127 (fun w => bs34 _ w) (fun bn => ?_)
   refine ap1 (xs := (ktab.take i).map uv) 3 4 qc rfl QE rfl rfl hR rfl rfl (by omega) (by unfold maxLen; omega) (fun r2 hr2 => ?_)
   refine s1e 1 (shq (sv r2 (i + 1)) Z8) rfl (show 1 < 23 by decide) rfl ?_ (by kernel_rfl) (sv_cell _ _).1 (sv_cell _ _).2
   refine .as ((i + 1 : Nat) : Int) (by (try simp only); omega) (by simp only [mn]; omega) (by simp only [mx]; omega) ?_
   rw [← ks_snoc i hlt] at hr2
   refine ⟨(i + 1, r2), ⟨hlt, hr2⟩, by (try simp only); omega, ?_⟩
   simp only [ks_snoc i hlt]
   exact ⟨⟨rfl, rfl, rfl, rfl, rfl, rfl, trivial⟩, .cons (.cons (.cons (.cons .nil))), rfl⟩
 · obtain rfl : i = 64 := by (try simp only at h); omega
   rw [List.take_of_length_le (by rw [ZB]; omega)] at hR
   rcases r with _ | ⟨tb2, cp, jk⟩
   · have := hR.2; omega
   have e64 : (ktab.take 64).map uv = ktab.map uv := by rw [List.take_of_length_le (by rw [ZB]; omega)]
   simp only [e64]
   refine cv qeI ?_
   refine lp qc (fun i : Nat => i ≤ 8) (fun i => ⟨[(0, .slice (some ⟨pb, po, none⟩) xss.length kc), (2, ptr b2), (3, ptr b), (35, .agg (R64.map uw).toArray), (36, .int .i64 i)],
    [cl b2 (List.replicate 32 (Value.int .u8 0)).toArray 39, cl b (shq (.slice (some ⟨tb2, 0, none⟩) 64 cp) ((kroots.l.map uv).take i ++ Z8.drop i)) 210, dead, cl tb2 (ktab.map uv ++ jk).toArray 127], []⟩) (fun i => 8 - i) 0 (by decide) ⟨⟨rfl, rfl, rfl, rfl, rfl, trivial⟩, .cons (.cons (.dead (.cons .nil))), rfl⟩ ?_
   intro i hi
   refine cd (fun h => ?_) (fun h => ?_)
   · have hlt : i < 8 := by omega
     have hlen : ((kroots.l.map uv).take i ++ Z8.drop i).length = 8 := by simp [Z8, H8.l]; omega
     refine ⟨by omega, by omega, .cell (uw (R64.getD i 0)) rfl (by rw [qh, Nat.mul_one, Int.toNat_natCast, List.getElem?_toArray]; simp [show i < R64.length from hlt]) ?_⟩
     refine ⟨by decide, ?_⟩
     refine .to (ux (kroots.l.getD i 0)) (half_u _ _ (qeJ i hlt)) ?_
     refine ⟨by omega, by omega, ?_⟩
     refine s1e 1 (shq (.slice (some ⟨tb2, 0, none⟩) 64 cp) ((kroots.l.map uv).take (i + 1) ++ Z8.drop (i + 1))) rfl (by rw [qi, qh, Nat.mul_one, Int.toNat_natCast]; show 2 + i < (shq _ _).size; simp [shq]; omega) (by
      rw [qi, qh, Nat.mul_one, Int.toNat_natCast]
      show (shq _ _).setIfInBounds (2 + i) _ = _
      rw [shq_setf _ _ i (by omega), QJ _ _ _ (by simp [Z8, H8.l]) i (by simp [H8.l]; omega) (by rw [← List.getElem?_toArray]; exact zh kroots i hlt)]) ?_
     refine .as ((i + 1 : Nat) : Int) (by omega) (by simp only [mn]; omega) (by simp only [mx]; omega) ?_
     exact ⟨i + 1, by omega, by omega, ⟨⟨rfl, rfl, rfl, rfl, rfl, trivial⟩, .cons (.cons (.cons (.cons .nil))), rfl⟩⟩
   · obtain rfl : i = 8 := by omega
     have hE : shq (.slice (some ⟨tb2, 0, none⟩) 64 cp) ((kroots.l.map uv).take 8 ++ Z8.drop 8) = shp tb2 cp := rfl
     rw [hE]
     refine co (fun w' hs => qbt b tb2 cp pb po kc jk vs xss bs hbs hlen w' (Nat.lt_of_lt_of_le hpb hs.below.size) (fun i u hu => (hs.below.cell (p := ⟨pb, po + i, none⟩) hpb).trans (hp i u hu)) (fun i v xs h1 h2 => (hx i v xs h1 h2).below hs.below) hn hk (hs.nth (k := 1) rfl) (hs.nth (k := 3) rfl)) (fun r hr => ?_)
     rcases r with _ | ⟨rb, cap, jj⟩
     · have := hr.2; omega
     have hl : (Lib.byteCells (shaB bs)).length = 32 := by rw [Lib.byteCells_length, shaB_len]
     generalize shaB bs = D at *
     refine ⟨by decide, ?_⟩
     refine ldP 4 rfl (d := (Lib.byteCells D).toArray) (by simpa using hl) (by simp [hl]) ?_
     refine sN 0 rfl (by simp [hl]) (Zj D) ?_ (by simp only [List.size_toArray, hl]; kernel_rfl)
     refine ldN 0 rfl (by simp [hl]) ?_
     exact rt rfl
end
end Go.Proofs.YtbgefoamhdgnaaaGreatDoor.S
namespace Go.Proofs.YtbgefoamhdgnaaaGreatDoor
section
open Go.RowKit Go.Sx
theorem bs0 (w : World) : (Instr.buildSlice 48 0 #[]).run Tryz.prog w = .ok (.slice (some ⟨w.heap.size, 0, none⟩) 0 0) (w.alloc (.cells #[] 5)) := by
 obtain ⟨i, hi, hz, hs, hb⟩ := Qg Qj
 simp [Instr.buildSlice, run_underlying Zq, sizeOf, typeInfo, hi, newRow, Instr.fill]
 exact congrArg (fun c => w.alloc (.cells c 5)) (Array.ext' (by simp))
theorem qby (k : Nat) (T : List Value) (x z : Value) (hk : k < T.length) (hx : T[k]? = some x) : (List.replicate (k + 1) z ++ T.drop (k + 1)).set k x = List.replicate k z ++ T.drop k := by
 rw [List.replicate_succ', List.append_assoc, List.set_append_right _ _ (by simp), List.length_replicate, Nat.sub_self]
 obtain ⟨h, rfl⟩ := List.getElem?_eq_some_iff.1 hx
 rw [List.drop_eq_getElem_cons hk]; rfl
def TL (n : Nat) : List Value := Lib.byteCells ((List.range 16).map (qL n))
theorem ZG (n : Nat) : (TL n).length = 16 := by simp [TL, Lib.byteCells]
theorem TL_at (n j : Nat) (h : j < 16) : (TL n)[j]? = some (.int .u8 (qL n j).toNat) := by
 simp [TL, Lib.byteCells, h]
theorem qbn (v : Value) (bs : List UInt8) (w : World) (hrd : Rd w v (Lib.byteCells bs)) (hn : bs.length ≤ 1000000) :
 Calls Tryz.prog 69 ([v, .int .i64 128, .int .i64 16] : List Value).toArray w fun e w' => ∃ r, e = .returned (sv r (Qk bs).length) ∧ Rw 1 (Qk bs).length r (Lib.byteCells (Qk bs)) ∧ zq w w' r (Lib.byteCells (Qk bs)) 5 ∧ Below w.heap.size w w' := by
 have hrd0 := hrd
 obtain ⟨va, vc, hv, _⟩ := hrd0
 rw [Lib.byteCells_length] at hv
 have hmk := fun w => made1 (P := Tryz.prog) w Zq Qj rfl 16 16 (by decide) (by decide) (by decide)
 refine (enter qc Tryz.func69 rfl Tryz.ntmps69 rfl (St.start w) (R := fun v w' => ∃ r, v = sv r (Qk bs).length ∧ Rw 1 (Qk bs).length r (Lib.byteCells (Qk bs)) ∧ zq w w' r (Lib.byteCells (Qk bs)) 5 ∧ Below w.heap.size w w') ?_).mono (fun e w' ⟨v, he, r, hv, h⟩ => ⟨r, by rw [he, hv], h⟩)
 refine .mk #[] 5 (fun w => bs0 w) (fun b0 => ?_)
 refine ap (r := some (b0, 0, [])) (n := 0) (xs := []) (m := bs.length) (news := Lib.byteCells bs) 0 qc rfl Qj rfl rfl ⟨rfl, by decide, by decide, rfl⟩ (fun w' hs => by rw [← Lib.byteCells_length bs]; exact (hrd.below hs.below).src Zq (fun u hu => by obtain ⟨_, _, rfl⟩ := List.mem_map.1 hu; rfl)) (by omega) (by unfold maxLen; omega) (fun r1 hr1 => ?_)
 rw [Nat.zero_add, List.nil_append] at *
 refine .mk #[.int .u8 128] 5 (fun w => bs5 _ w) (fun bn => ?_)
 refine ap1 (r := r1) (n := bs.length) (xs := Lib.byteCells bs) 0 1 qc rfl Qj rfl rfl hr1 rfl rfl (by omega) (by unfold maxLen; omega) (fun r2 hr2 => ?_)
 refine lp qc (fun x : Nat × Sx.Own => x.1 ≤ qr bs.length ∧ Rw 1 (bs.length + 1 + x.1) x.2 (Lib.byteCells (bs ++ [128] ++ List.replicate x.1 0)))
  (fun x => ⟨[(0, v), (1, .int .i64 128), (2, .int .i64 16), (7, sv x.2 (bs.length + 1 + x.1))], [se x.2 (Lib.byteCells (bs ++ [128] ++ List.replicate x.1 0)) 5], []⟩) (fun x => qr bs.length - x.1) (0, r2)
  ⟨Nat.zero_le _, by simpa [Lib.byteCells_append, qay] using hr2⟩ ⟨⟨rfl, rfl, rfl, rfl, trivial⟩, ?_, rfl⟩ ?_
 · simp only [List.replicate_zero, List.append_nil, Lib.byteCells_append, qay]
   exact .cons .nil
 rintro ⟨k, r⟩ ⟨hk1, hR⟩
 simp only at hk1 hR
 rcases r with _ | ⟨rb, cap, jj⟩
 · have := hR.2; omega
 have hfl : qr bs.length < 128 := by unfold qr; omega
 refine .as ((bs.length + 1 + k + 16 : Nat) : Int) (by simp only; omega) (by simp only [mn]; omega) (by simp only [mx]; omega) ?_
 refine ⟨by omega, by simp only [mx]; omega, by decide, ?_⟩
 refine cne (fun h => ?_) (fun h => ?_)
 · have hlt : k < qr bs.length := by
    rcases Nat.lt_or_ge k (qr bs.length) with h1 | h1
    · exact h1
    · exfalso; apply h; obtain rfl : k = qr bs.length := by omega
      unfold qr; omega
   refine .mk #[.int .u8 0] 5 (fun w => bs5 _ w) (fun bn => ?_)
   refine ap1 (r := some (rb, cap, jj)) (xs := Lib.byteCells (bs ++ [128] ++ List.replicate k 0)) 0 1 qc rfl Qj rfl rfl hR rfl rfl (by omega) (by unfold maxLen; omega) (fun r3 hr3 => ?_)
   have e1 : Lib.byteCells (bs ++ [128] ++ List.replicate (k + 1) 0) = Lib.byteCells (bs ++ [128] ++ List.replicate k 0) ++ [.int .u8 0] := by
    rw [qaH, ← List.append_assoc, Lib.byteCells_append]; rfl
   rw [← e1] at hr3
   refine ⟨(k + 1, r3), ⟨by simp only; omega, hr3⟩, by simp only; omega, ?_⟩
   simp only [e1]
   exact ⟨⟨rfl, rfl, rfl, rfl, trivial⟩, .cons .nil, rfl⟩
 · obtain rfl : k = qr bs.length := by
    unfold qr at hk1 ⊢; omega
   refine .mk 16 16 _ _ hmk fun tb => ?_
   rw [hv]
   refine .as 15 (by decide) (by decide) (by decide) ?_
   refine ⟨by omega, by simp only [mx]; omega, by decide, ?_⟩
   refine .as (((bs.length % 32) * 8 : Nat) : Int) (by omega) (by simp only [mn]; omega) (by simp only [mx]; omega) ?_
   refine .to ((qL bs.length 15).toNat : Int) (by rw [zK]; show ((_ : Nat) : Int) % 256 = _; omega) ?_
   refine ⟨by decide, by decide, ?_⟩
   refine s1 1 rfl (by decide) ?_
   refine ⟨by omega, by simp only [mx]; omega, by decide, ?_⟩
   refine .as 14 (by decide) (by decide) (by decide) ?_
   generalize hbn : bs.length = n at *
   have hpb : Qk bs = bs ++ [128] ++ List.replicate (qr n) 0 ++ (List.range 16).map (qL n) := by rw [← hbn]; rfl
   have hpl := (ZA bs).2
   rw [hbn] at hpl
   have hi15 : ((List.replicate 16 (Value.int .u8 0)).toArray.setIfInBounds (nad 0 (nmu (Int.toNat 15) 1)) (.int .u8 (qL n 15).toNat)) = (List.replicate 15 (Value.int .u8 0) ++ (TL n).drop 15).toArray := by
    rw [← qby 15 (TL n) _ (.int .u8 0) (by rw [ZG]; decide) (TL_at n 15 (by decide)), List.drop_of_length_le (by rw [ZG]; decide)]
    rfl
   refine lp qc (fun m : Nat => 1 ≤ m ∧ m ≤ 16) (fun m => ⟨[(7, sv (some (rb, cap, jj)) (n + 1 + qr n)), (8, .slice (some ⟨tb, 0, none⟩) 16 16), (9, .int .i64 (8 * n / 256 ^ m : Nat)), (10, .int .i64 (15 - (m : Int)))],
    [se (some (rb, cap, jj)) (Lib.byteCells (bs ++ [128] ++ List.replicate (qr n) 0)) 5, cl tb (List.replicate (16 - m) (Value.int .u8 0) ++ (TL n).drop (16 - m)).toArray 5], []⟩) (fun m => 16 - m) 1 ⟨Nat.le_refl _, by decide⟩
    ⟨⟨rfl, rfl, congrArg (fun x : Int => some (Value.int .i64 x)) (show (n : Int) / 32 = ((8 * n / 256 ^ 1 : Nat) : Int) by omega), rfl, trivial⟩, by simp only [show 16 - 1 = 15 from rfl, ← hi15]; exact .cons (.cons .nil), rfl⟩ ?_
   intro m hm
   refine cd (fun h => ?_) (fun h => ?_)
   · have hlt : m < 16 := by omega
     have hdiv : 8 * n / 256 ^ (m + 1) = 8 * n / 256 ^ m / 256 := by rw [Nat.pow_succ, Nat.div_div_eq_div_mul]
     have hle : 8 * n / 256 ^ m ≤ 8 * n := Nat.div_le_self _ _
     have hE : (List.replicate (16 - (m + 1)) (Value.int .u8 0) ++ (TL n).drop (16 - (m + 1))).toArray = (List.replicate (16 - m) (Value.int .u8 0) ++ (TL n).drop (16 - m)).toArray.setIfInBounds (nad 0 (nmu (Int.toNat (15 - (m : Int))) 1)) (.int .u8 (qL n (15 - m)).toNat) := by
      rw [qi, qh, Nat.zero_add, Nat.mul_one, show Int.toNat (15 - (m : Int)) = 15 - m by omega, List.setIfInBounds_toArray, show 16 - m = 15 - m + 1 by omega, qby (15 - m) (TL n) _ _ (by rw [ZG]; omega) (TL_at n _ (by omega)), show 16 - (m + 1) = 15 - m by omega]
     have htv : (qL n (15 - m)).toNat = 8 * n / 256 ^ m % 256 := by rw [zK, show 15 - (15 - m) = m by omega]
     generalize 8 * n / 256 ^ m = q at *
     refine ⟨by omega, by simp only [mx]; omega, by decide, ?_⟩
     refine .to ((qL n (15 - m)).toNat : Int) (by rw [htv]; show ((_ : Nat) : Int) % 256 % 256 = _; omega) ?_
     refine ⟨by omega, by omega, ?_⟩
     refine s1 1 rfl (by rw [qi, qh, Nat.zero_add, Nat.mul_one]; simp [ZG]; omega) ?_
     refine ⟨by omega, by simp only [mx]; omega, by decide, ?_⟩
     refine .as (15 - ((m + 1 : Nat) : Int)) (by omega) (by simp only [mn]; omega) (by simp only [mx]; omega) ?_
     refine ⟨m + 1, by omega, by omega, ?_⟩
     simp only [hE]
     exact ⟨⟨rfl, rfl, congrArg (fun x : Int => some (Value.int .i64 x)) (show (q : Int) / 256 = ((8 * n / 256 ^ (m + 1) : Nat) : Int) by rw [hdiv]; omega), rfl, trivial⟩, .cons (.cons .nil), rfl⟩
   · obtain rfl : m = 16 := by omega
     have hT : (List.replicate (16 - 16) (Value.int .u8 0) ++ (TL n).drop (16 - 16)).toArray = (TL n).toArray := by simp
     rw [hT]
     refine ap (r := some (rb, cap, jj)) (n := n + 1 + qr n) (xs := Lib.byteCells (bs ++ [128] ++ List.replicate (qr n) 0)) (m := 16) (news := TL n) 0 qc rfl Qj rfl rfl hR (srcE (C := ⟨Tryz.prog, tab, 57, [], w, none⟩) (e' := 5) (tx := 48) (z := 1) rfl qc (src 1 rfl (by rw [List.drop_zero, List.take_of_length_le (Nat.le_refl _)])) (ZG n) (fun u hu => by obtain ⟨_, _, rfl⟩ := List.mem_map.1 hu; rfl)) (by omega) (by unfold maxLen; omega) (fun r3 hr3 => ?_)
     have e1 : Lib.byteCells (bs ++ [128] ++ List.replicate (qr n) 0) ++ TL n = Lib.byteCells (Qk bs) := by rw [hpb, Lib.byteCells_append _ ((List.range 16).map (qL n))]; rfl
     have e2 : n + 1 + qr n + 16 = (Qk bs).length := by omega
     rw [e1, e2] at hr3 ⊢
     exact ⟨fun w1 hs1 => ⟨r3, rfl, hr3, Qx hs1 rfl 0 rfl, hs1.below⟩⟩
end
section
open Go.RowKit Go.Sx
theorem ze (x : Wd) (n : Nat) (h0 : 0 < n) (hn : n < 64) (w : World) : Calls Tryz.prog 107 ([uv x, .int .u64 n] : List Value).toArray w fun e w' => e = .returned (uv (rot x n)) ∧ Below w.heap.size w w' := by
 refine qj qc Tryz.func107 rfl Tryz.ntmps107 rfl (St.start w) ?_
 refine ⟨by omega, ?_⟩
 refine .as ((64 - n : Nat) : Int) (by omega) (by simp only [mn]; omega) (by simp only [mx]; omega) ?_
 refine ⟨by omega, .to (ux (x <<< (64 - n))) (qdj x (64 - n) (by omega) _ rfl) ?_⟩
 refine .to (ux (rot x n)) (by rw [Zs x n (by omega) _ rfl, ← rot_add x n hn]; exact qC _ _) ?_
 exact rt rfl
theorem qdw (w : World) : Calls Tryz.prog 68 ([] : List Value).toArray w fun e w' => ∃ b, e = .returned (.slice (some ⟨b, 0, none⟩) 80 80) ∧ w.heap.size ≤ b ∧ w'.heap[b]? = some (.cells (ktab.map uv).toArray 131 (0, 0)) ∧ Below w.heap.size w w' := by
 refine (enter qc Tryz.func68 rfl Tryz.ntmps68 rfl (St.start w) (R := fun v w' => ∃ b, v = .slice (some ⟨b, 0, none⟩) 80 80 ∧ w.heap.size ≤ b ∧ w'.heap[b]? = some (.cells (ktab.map uv).toArray 131 (0, 0)) ∧ Below w.heap.size w w') ?_).mono (fun e w' ⟨v, he, r, hv, h⟩ => ⟨r, by rw [he, hv], h⟩)
 refine .mk (ktab.map uv).toArray 131 (fun w => ?_) (fun bn => ?_)
 · obtain ⟨i, hi, hz, hs, hb⟩ := Qg QE
   exact run_buildSlice w _ _ 80 _ _ i (.int .u64 0) qcO hi hz (by rw [hs]; decide) (by rw [hs]; decide) (by rw [hs]; kernel_rfl)
 · exact ⟨fun w1 hs => ⟨bn, rfl, (hs.own _ (List.mem_of_getElem? (i := 0) rfl) rfl rfl).resolve_right (by simp), hs.nth (k := 0) rfl, hs.below⟩⟩
theorem qdx (w : World) : Calls Tryz.prog 67 ([] : List Value).toArray w fun e w' => ∃ b, e = .returned (.slice (some ⟨b, 0, none⟩) 8 8) ∧ w.heap.size ≤ b ∧ w'.heap[b]? = some (.cells (kroots.l.map uv).toArray 131 (0, 0)) ∧ Below w.heap.size w w' := by
 refine (enter qc Tryz.func67 rfl Tryz.ntmps67 rfl (St.start w) (R := fun v w' => ∃ b, v = .slice (some ⟨b, 0, none⟩) 8 8 ∧ w.heap.size ≤ b ∧ w'.heap[b]? = some (.cells (kroots.l.map uv).toArray 131 (0, 0)) ∧ Below w.heap.size w w') ?_).mono (fun e w' ⟨v, he, r, hv, h⟩ => ⟨r, by rw [he, hv], h⟩)
 refine .mk (kroots.l.map uv).toArray 131 (fun w => ?_) (fun bn => ?_)
 · obtain ⟨i, hi, hz, hs, hb⟩ := Qg QE
   exact run_buildSlice w _ _ 8 _ _ i (.int .u64 0) qcO hi hz (by rw [hs]; decide) (by rw [hs]; decide) (by rw [hs]; kernel_rfl)
 · exact ⟨fun w1 hs => ⟨bn, rfl, (hs.own _ (List.mem_of_getElem? (i := 0) rfl) rfl rfl).resolve_right (by simp), hs.nth (k := 0) rfl, hs.below⟩⟩
theorem outB_at (S : H8) (i : Nat) (h : i < 64) : (zd S)[i]? = some (UInt8.ofNat ((S.l.getD (i / 8) 0).toNat / 2 ^ (56 - 8 * (i % 8)) % 256)) := by
 have e : zd S = (List.range 64).map (fun i => UInt8.ofNat ((S.l.getD (i / 8) 0).toNat / 2 ^ (56 - 8 * (i % 8)) % 256)) := rfl
 rw [e]; simp [h]
theorem qdN (S : H8) : (zd S).length = 64 := by simp [zd, H8.l, Qd]
def wt (p : List UInt8) (t : Nat) : List Wd := qK (t - 16) ((qp p).take t)
theorem wt_len (p : List UInt8) (t : Nat) : (wt p t).length = t := by
 unfold wt; rw [zR, List.length_take, show (qp p).length = 16 by simp [qp]]; omega
theorem qdf (p : List UInt8) (t : Nat) (h : t ≤ 16) : wt p t = (qp p).take t := by unfold wt; rw [show t - 16 = 0 by omega]; rfl
theorem qah (p : List UInt8) (t : Nat) (h : 16 ≤ t) : wt p t = qK (t - 16) (qp p) := by unfold wt; rw [List.take_of_length_le (by simp [qp]; omega)]
theorem wt_next (p : List UInt8) (t : Nat) (h : 16 ≤ t) : wt p (t + 1) = wt p t ++ [zD (wt p t)] := by
 rw [qah p (t + 1) (by omega), qah p t h, show t + 1 - 16 = t - 16 + 1 by omega]; rfl
theorem qdh (ws : List Wd) (x y : Wd) (n : Nat) : (qm (ws ++ [x]) n).setIfInBounds ws.length (uv y) = qm (ws ++ [y]) n := by
 unfold qm
 simp
theorem qbv (ws : List Wd) (n : Nat) : qm ws (n + 1) = qm (ws ++ [0]) n := by
 unfold qm
 rw [List.replicate_succ]; simp; rfl
theorem qeK (v : Value) (bs : List UInt8) (w : World) (hrd : Rd w v (Lib.byteCells bs)) (hn : bs.length ≤ 1000000) :
 Calls Tryz.prog 75 ([v] : List Value).toArray w fun e w' => e = .returned (qdg (shaB bs)) ∧ Below w.heap.size w w' := by
 refine qj qc Tryz.func75 rfl Tryz.ntmps75 rfl (St.start w) ?_
 intro b2 b3
 refine cn (fun w' _ => qdx w') (fun rb => ?_)
 refine cn (fun w' _ => qdw w') (fun tb => ?_)
 refine lp qc (fun i : Nat => i ≤ 8) (fun i => ⟨[(0, v), (2, ptr b2), (3, ptr b3), (4, .slice (some ⟨rb, 0, none⟩) 8 8), (5, .slice (some ⟨tb, 0, none⟩) 80 80), (6, .int .i64 i)],
  [cl b2 (List.replicate 64 (Value.int .u8 0)).toArray 41, cl b3 ((kroots.l.map uv).take i ++ (List.replicate 8 (Value.int .u64 0)).drop i).toArray 172, cl rb (kroots.l.map uv).toArray 131, cl tb (ktab.map uv).toArray 131], []⟩) (fun i => 8 - i) 0 (Nat.zero_le _)
  ⟨⟨rfl, rfl, rfl, rfl, rfl, rfl, trivial⟩, .cons (.cons (.cons (.cons .nil))), rfl⟩ ?_
 intro i hi
 refine cd (fun h => ?_) (fun h => ?_)
 · have hlt : i < 8 := by omega
   refine ⟨by omega, by omega, ?_⟩
   refine ld1 2 rfl (v := uv (kroots.l.getD i 0)) (by rw [qi, qh, Nat.zero_add, Nat.mul_one, Int.toNat_natCast]; exact zh _ i hlt) ?_
   refine ⟨by omega, by omega, ?_⟩
   refine s1 1 rfl (by rw [qi, qh, Nat.zero_add, Nat.mul_one, Int.toNat_natCast]; simp [H8.l]; omega) ?_
   have hE : ((kroots.l.map uv).take (i + 1) ++ (List.replicate 8 (Value.int .u64 0)).drop (i + 1)).toArray = ((kroots.l.map uv).take i ++ (List.replicate 8 (Value.int .u64 0)).drop i).toArray.setIfInBounds (nad 0 (nmu (Int.toNat (i : Int)) 1)) (uv (kroots.l.getD i 0)) := by
    rw [qi, qh, Nat.zero_add, Nat.mul_one, Int.toNat_natCast, List.setIfInBounds_toArray, QJ _ _ _ (by simp [H8.l]) i (by simp [H8.l]; omega) (by rw [← List.getElem?_toArray]; exact zh _ i hlt)]
   refine .as ((i + 1 : Nat) : Int) (by omega) (by simp only [mn]; omega) (by simp only [mx]; omega) ?_
   refine ⟨i + 1, by omega, by omega, ?_⟩
   rw [hE]
   exact ⟨⟨rfl, rfl, rfl, rfl, rfl, rfl, trivial⟩, .cons (.cons (.cons (.cons .nil))), rfl⟩
 obtain rfl : i = 8 := by omega
 have hE : ((kroots.l.map uv).take 8 ++ (List.replicate 8 (Value.int .u64 0)).drop 8).toArray = (kroots.l.map uv).toArray := rfl
 rw [hE]
 refine co (fun w' hs => qbn v bs w' (hrd.below hs.below) hn) (fun r hr => ?_)
 have hsha : shaB bs = zd (qA (Qk bs) ((Qk bs).length / 128)) := rfl
 obtain ⟨hpl1, hpl2⟩ := ZA bs
 have hfl : qr bs.length < 128 := by unfold qr; omega
 rw [hsha]
 rcases r with _ | ⟨xb, cap, jj⟩
 · have := hr.2; omega
 generalize Qk bs = pt at *
 obtain ⟨q, hq⟩ : ∃ q, pt.length = 128 * q := ⟨pt.length / 128, by omega⟩
 have hq2 : pt.length / 128 = q := by omega
 rw [hq2]
 refine lp qc (fun k : Nat => k ≤ q) (fun k => ⟨[(2, ptr b2), (3, ptr b3), (5, .slice (some ⟨tb, 0, none⟩) 80 80), (7, .slice (some ⟨xb, 0, none⟩) pt.length cap), (8, .int .i64 (128 * k : Nat))],
  [cl b2 (List.replicate 64 (Value.int .u8 0)).toArray 41, cl b3 ((qA pt k).l.map uv).toArray 172, cl tb (ktab.map uv).toArray 131, cl xb (Lib.byteCells pt ++ jj).toArray 5], []⟩) (fun k => q - k) 0 (Nat.zero_le _)
  ⟨⟨rfl, rfl, rfl, rfl, rfl, trivial⟩, .cons (.cons (.drop (.cons (.cons .nil)))), rfl⟩ ?_
 intro k hk
 refine cd (fun h => ?_) (fun h => ?_)
 · have hlt : k < q := by omega
   intro b9
   obtain ⟨p, hp⟩ : ∃ p, p = (pt.drop (128 * k)).take 128 := ⟨_, rfl⟩
   have hpl : p.length = 128 := by rw [hp, List.length_take, List.length_drop]; omega
   have hpc : ∀ i, i < 128 → (Lib.byteCells pt ++ jj).toArray[128 * k + i]? = some (.int .u8 (p.getD i 0).toNat) := by
    intro i hi
    rw [List.getElem?_toArray, List.getElem?_append_left (by rw [Lib.byteCells_length]; omega), qaX _ _ (by omega), hp]
    simp [List.getD, hi]
   have hpn : qA pt (k + 1) = (qA pt k).add (QC ktab (qK 64 (qp p)) (qA pt k) 80) := by rw [hp]; rfl
   have hw16 : (qp p).length = 16 := by simp [qp]
   refine lp qc (fun t : Nat => t ≤ 80) (fun t => ⟨[(2, ptr b2), (3, ptr b3), (5, .slice (some ⟨tb, 0, none⟩) 80 80), (7, .slice (some ⟨xb, 0, none⟩) pt.length cap), (8, .int .i64 (128 * k : Nat)), (9, ptr b9), (10, .int .i64 t)], [cl b2 (List.replicate 64 (Value.int .u8 0)).toArray 41, cl b3 ((qA pt k).l.map uv).toArray 172, cl tb (ktab.map uv).toArray 131, cl xb (Lib.byteCells pt ++ jj).toArray 5, cl b9 (qm (wt p t) (80 - t)) 173], []⟩) (fun t => 80 - t) 0 (Nat.zero_le _)
    ⟨⟨rfl, rfl, rfl, rfl, rfl, rfl, rfl, trivial⟩, .cons (.cons (.cons (.cons (.cons .nil)))), rfl⟩ ?_
   intro t ht
   have hwl := wt_len p t
   refine cd (fun h => ?_) (fun h => ?_)
   · have htl : t < 80 := by omega
     refine cd (fun h16 => ?_) (fun h16 => ?_)
     · have hl16 : t < 16 := by omega
       have hz0 : qm (wt p t) (80 - t) = qm (wt p t ++ [be (((p.drop (8 * t)).take 8).take 0)]) (79 - t) := by
        rw [show 80 - t = 79 - t + 1 by omega, qbv]; rfl
       rw [hz0]
       refine lp qc (fun i : Nat => i ≤ 8) (fun i => ⟨[(2, ptr b2), (3, ptr b3), (5, .slice (some ⟨tb, 0, none⟩) 80 80), (7, .slice (some ⟨xb, 0, none⟩) pt.length cap), (8, .int .i64 (128 * k : Nat)), (9, ptr b9), (10, .int .i64 t), (11, .int .i64 i)], [cl b2 (List.replicate 64 (Value.int .u8 0)).toArray 41, cl b3 ((qA pt k).l.map uv).toArray 172, cl tb (ktab.map uv).toArray 131, cl xb (Lib.byteCells pt ++ jj).toArray 5, cl b9 (qm (wt p t ++ [be (((p.drop (8 * t)).take 8).take i)]) (79 - t)) 173], []⟩) (fun i => 8 - i) 0 (Nat.zero_le _)
        ⟨⟨rfl, rfl, rfl, rfl, rfl, rfl, rfl, rfl, trivial⟩, .cons (.cons (.cons (.cons (.cons .nil)))), rfl⟩ ?_
       intro i hi
       refine cd (fun h => ?_) (fun h => ?_)
       · have hi8 : i < 8 := by omega
         refine drs [cl b2 (List.replicate 64 (Value.int .u8 0)).toArray 41, cl b3 ((qA pt k).l.map uv).toArray 172, cl tb (ktab.map uv).toArray 131, cl xb (Lib.byteCells pt ++ jj).toArray 5, cl b9 (qm (wt p t ++ [be (((p.drop (8 * t)).take 8).take i)]) (79 - t)) 173] [17] (.t 0 (.t 1 (.t 2 (.t 3 (.t 4 (.t 5 (.t 6 (.t 7 (.t 8 (.t 9 (.t 10 (.t 11 (.t 12 (.t 13 (.t 14 (.t 15 (.t 16 (.n 17 .nil)))))))))))))))))) qc qe (by kernel_rfl) (.cons (.cons (.cons (.cons (.cons .nil))))) ?_
         refine ⟨by omega, by omega, ?_⟩
         refine ld1 4 rfl (v := uv (be (((p.drop (8 * t)).take 8).take i))) (by rw [qi, qh, Nat.zero_add, Nat.mul_one, Int.toNat_natCast]; rw [QT _ _ _ (by rw [List.length_append, hwl]; simp)]; simp [hwl]) ?_
         refine .to (ux (be (((p.drop (8 * t)).take 8).take i) * BitVec.ofNat 64 256)) (u_mul _ 256 (by decide)) ?_
         refine .as ((8 * t : Nat) : Int) (by omega) (by simp only [mn]; omega) (by simp only [mx]; omega) ?_
         refine .as ((128 * k + 8 * t : Nat) : Int) (by omega) (by simp only [mn]; omega) (by simp only [mx]; omega) ?_
         refine .as ((128 * k + (8 * t + i) : Nat) : Int) (by omega) (by simp only [mn]; omega) (by simp only [mx]; omega) ?_
         refine ⟨by omega, by omega, ?_⟩
         refine ld1 3 rfl (v := .int .u8 (p.getD (8 * t + i) 0).toNat) (by rw [qi, qh, Nat.zero_add, Nat.mul_one, Int.toNat_natCast]; exact hpc _ (by omega)) ?_
         have hb := (p.getD (8 * t + i) 0).toNat_lt
         refine .same (by simp only [mn]; omega) (by simp only [mx]; omega) ?_
         have hbe : be (((p.drop (8 * t)).take 8).take (i + 1)) = bw (be (((p.drop (8 * t)).take 8).take i)) (p.getD (8 * t + i) 0) := by
          rw [qaT p hpl (8 * t) i (by omega) hi8, qb6]
         refine .to (ux (be (((p.drop (8 * t)).take 8).take (i + 1)))) (by rw [hbe, ← bw_add, ← qbw]; exact qC _ _) ?_
         refine ⟨by omega, by omega, ?_⟩
         refine s1 4 rfl (by rw [qi, qh, Nat.zero_add, Nat.mul_one, Int.toNat_natCast]; simp [qm, hwl]) ?_
         refine .as ((i + 1 : Nat) : Int) (by omega) (by simp only [mn]; omega) (by simp only [mx]; omega) ?_
         have hE : qm (wt p t ++ [be (((p.drop (8 * t)).take 8).take (i + 1))]) (79 - t) = (qm (wt p t ++ [be (((p.drop (8 * t)).take 8).take i)]) (79 - t)).setIfInBounds (nad 0 (nmu (Int.toNat (t : Int)) 1)) (uv (be (((p.drop (8 * t)).take 8).take (i + 1)))) := by
          rw [qi, qh, Nat.zero_add, Nat.mul_one, Int.toNat_natCast]; rw [← qdh _ (be (((p.drop (8 * t)).take 8).take i)), hwl]
         refine ⟨i + 1, by omega, by omega, ?_⟩
         simp only [hE]
         exact ⟨⟨rfl, rfl, rfl, rfl, rfl, rfl, rfl, rfl, trivial⟩, .cons (.cons (.cons (.cons (.cons .nil)))), rfl⟩
       · obtain rfl : i = 8 := by omega
         have hE : qm (wt p (t + 1)) (80 - (t + 1)) = qm (wt p t ++ [be (((p.drop (8 * t)).take 8).take 8)]) (79 - t) := by
          rw [qdf p (t + 1) (by omega), qdf p t (by omega), Zp p hpl t hl16, List.take_take, show 80 - (t + 1) = 79 - t by omega]; rfl
         refine .as ((t + 1 : Nat) : Int) (by omega) (by simp only [mn]; omega) (by simp only [mx]; omega) ?_
         refine ⟨t + 1, by omega, by omega, ?_⟩
         simp only [hE]
         exact ⟨⟨rfl, rfl, rfl, rfl, rfl, rfl, rfl, trivial⟩, .cons (.cons (.cons (.cons (.cons .nil)))), rfl⟩
     · have h16' : 16 ≤ t := by omega
       refine .as ((t - 2 : Nat) : Int) (by omega) (by simp only [mn]; omega) (by simp only [mx]; omega) ?_
       refine ⟨by omega, by omega, ?_⟩
       refine ld1 4 rfl (v := uv ((wt p t).getD (t - 2) 0)) (by rw [qi, qh, Nat.zero_add, Nat.mul_one, Int.toNat_natCast]; exact QT _ _ _ (by omega)) ?_
       refine .as ((t - 15 : Nat) : Int) (by omega) (by simp only [mn]; omega) (by simp only [mx]; omega) ?_
       refine ⟨by omega, by omega, ?_⟩
       refine ld1 4 rfl (v := uv ((wt p t).getD (t - 15) 0)) (by rw [qi, qh, Nat.zero_add, Nat.mul_one, Int.toNat_natCast]; exact QT _ _ _ (by omega)) ?_
       have hnx : zD (wt p t) = zo ((wt p t).getD (t - 2) 0) 19 61 6 true + (wt p t).getD (t - 7) 0 + zo ((wt p t).getD (t - 15) 0) 1 8 7 true + (wt p t).getD (t - 16) 0 := by unfold zD; rw [hwl]
       generalize hX : (wt p t).getD (t - 2) 0 = X at *
       generalize hY : (wt p t).getD (t - 15) 0 = Y at *
       refine drs [dead, dead, dead, dead, cl b9 (qm (wt p t) (80 - t)) 173] [29] (.t 0 (.t 1 (.t 2 (.t 3 (.t 4 (.t 5 (.t 6 (.t 7 (.t 8 (.t 9 (.t 10 (.t 11 (.t 12 (.t 13 (.t 14 (.t 15 (.t 16 (.t 17 (.t 18 (.t 19 (.t 20 (.t 21 (.t 22 (.t 23 (.t 24 (.t 25 (.t 26 (.t 27 (.t 28 (.n 29 .nil)))))))))))))))))))))))))))))) qc qe (by kernel_rfl) (.dead (.dead (.dead (.dead (.cons .nil))))) ?_
       refine cz (fun w => ze X 19 (by decide) (by decide) w) ?_
       refine cz (fun w => ze X 61 (by decide) (by decide) w) ?_
       refine ⟨by decide, ?_⟩
       refine .as ((t - 7 : Nat) : Int) (by omega) (by simp only [mn]; omega) (by simp only [mx]; omega) ?_
       refine ⟨by omega, by omega, ?_⟩
       refine ld1 4 rfl (v := uv ((wt p t).getD (t - 7) 0)) (by rw [qi, qh, Nat.zero_add, Nat.mul_one, Int.toNat_natCast]; exact QT _ _ _ (by omega)) ?_
       refine .to (ux (zo X 19 61 6 true + (wt p t).getD (t - 7) 0)) (by rw [QU, Zs X 6 (by decide) 6 rfl, QU]; exact qC _ _) ?_
       refine cz (fun w => ze Y 1 (by decide) (by decide) w) ?_
       refine cz (fun w => ze Y 8 (by decide) (by decide) w) ?_
       refine ⟨by decide, ?_⟩
       refine .to (ux (zo X 19 61 6 true + (wt p t).getD (t - 7) 0 + zo Y 1 8 7 true)) (by rw [QU, Zs Y 7 (by decide) 7 rfl, QU]; exact qC _ _) ?_
       refine .as ((t - 16 : Nat) : Int) (by omega) (by simp only [mn]; omega) (by simp only [mx]; omega) ?_
       refine ⟨by omega, by omega, ?_⟩
       refine ld1 4 rfl (v := uv ((wt p t).getD (t - 16) 0)) (by rw [qi, qh, Nat.zero_add, Nat.mul_one, Int.toNat_natCast]; exact QT _ _ _ (by omega)) ?_
       refine .to (ux (zD (wt p t))) (by rw [hnx]; exact qC _ _) ?_
       refine ⟨by omega, by omega, ?_⟩
       refine s1 4 rfl (by rw [qi, qh, Nat.zero_add, Nat.mul_one, Int.toNat_natCast]; simp [qm, hwl]; omega) ?_
       have hE : qm (wt p (t + 1)) (80 - (t + 1)) = (qm (wt p t) (80 - t)).setIfInBounds (nad 0 (nmu (Int.toNat (t : Int)) 1)) (uv (zD (wt p t))) := by
        rw [qi, qh, Nat.zero_add, Nat.mul_one, Int.toNat_natCast]; rw [wt_next p t h16', show 80 - t = 79 - t + 1 by omega, qbv, show 80 - (t + 1) = 79 - t by omega, ← qdh (wt p t) 0, hwl]
       refine .as ((t + 1 : Nat) : Int) (by omega) (by simp only [mn]; omega) (by simp only [mx]; omega) ?_
       refine ⟨t + 1, by omega, by omega, ?_⟩
       simp only [hE]
       exact ⟨⟨rfl, rfl, rfl, rfl, rfl, rfl, rfl, trivial⟩, .cons (.cons (.cons (.cons (.cons .nil)))), rfl⟩
   · obtain rfl : t = 80 := by omega
     have hW : wt p 80 = qK 64 (qp p) := qah p 80 (by decide)
     have hgl : (qK 64 (qp p)).length = 80 := by rw [zR, hw16]
     rw [hW] at *
     generalize qK 64 (qp p) = ws at *
     generalize qA pt k = s at *
     refine ldN 1 rfl rfl ?_
     intro b14
     refine sN 5 rfl rfl rfl ?_ (by kernel_rfl)
     refine lp qc (fun t : Nat => t ≤ 80) (fun t => ⟨[(2, ptr b2), (3, ptr b3), (5, .slice (some ⟨tb, 0, none⟩) 80 80), (7, .slice (some ⟨xb, 0, none⟩) pt.length cap), (8, .int .i64 (128 * k : Nat)), (9, ptr b9), (14, ptr b14), (15, .int .i64 t)], [cl b2 (List.replicate 64 (Value.int .u8 0)).toArray 41, cl b3 (s.l.map uv).toArray 172, cl tb (ktab.map uv).toArray 131, cl xb (Lib.byteCells pt ++ jj).toArray 5, cl b9 (qm ws 0) 173, cl b14 ((QC ktab ws s t).l.map uv).toArray 172], []⟩) (fun t => 80 - t) 0 (Nat.zero_le _)
      ⟨⟨rfl, rfl, rfl, rfl, rfl, rfl, rfl, rfl, trivial⟩, .cons (.cons (.cons (.cons (.cons (.cons .nil))))), rfl⟩ ?_
     intro t ht
     refine cd (fun h => ?_) (fun h => ?_)
     · have htl : t < 80 := by omega
       have hst : QC ktab ws s (t + 1) = rnd (QC ktab ws s t) (ktab.getD t 0) (ws.getD t 0) := rfl
       generalize QC ktab ws s t = st at *
       generalize hK : ktab.getD t 0 = K at *
       generalize hV : ws.getD t 0 = V at *
       refine ⟨by decide, by decide, ld1 5 rfl (v := uv st.e) rfl ?_⟩
       refine ⟨by decide, by decide, ld1 5 rfl (v := uv st.a) rfl ?_⟩
       refine drs [dead, dead, cl tb (ktab.map uv).toArray 131, dead, cl b9 (qm ws 0) 173, cl b14 (st.l.map uv).toArray 172] [] (.t 0 (.t 1 (.t 2 (.t 3 (.t 4 (.t 5 (.t 6 (.t 7 (.t 8 (.t 9 (.t 10 (.t 11 (.t 12 (.t 13 (.t 14 (.t 15 (.t 16 (.t 17 (.t 18 (.t 19 (.t 20 (.t 21 (.t 22 (.t 23 (.t 24 (.t 25 (.t 26 (.t 27 (.t 28 (.t 29 (.t 30 (.t 31 .nil)))))))))))))))))))))))))))))))) qc qe (by kernel_rfl) (.dead (.dead (.cons (.dead (.cons (.cons .nil)))))) ?_
       refine ⟨by decide, by decide, ld1 5 rfl (v := uv st.h) rfl ?_⟩
       refine cz (fun w => ze st.e 14 (by decide) (by decide) w) ?_
       refine cz (fun w => ze st.e 18 (by decide) (by decide) w) ?_
       refine cz (fun w => ze st.e 41 (by decide) (by decide) w) ?_
       refine .to (ux (st.h + zo st.e 14 18 41 false)) (by rw [QU, QU]; exact qC _ _) ?_
       refine ⟨by decide, by decide, ld1 5 rfl (v := uv st.f) rfl ?_⟩
       refine .as (ux (~~~st.e)) (u_neg _) (ux_lt _).1 (by have := (ux_lt (~~~st.e)).2; simp only [mx]; omega) ?_
       refine ⟨by decide, by decide, ld1 5 rfl (v := uv st.g) rfl ?_⟩
       refine .to (ux (st.e &&& st.f ||| ~~~st.e &&& st.g)) (by rw [zf, zf, ← ch_add]; exact qC _ _) ?_
       refine .to _ (qC _ _) ?_
       refine ⟨by omega, by omega, ?_⟩
       refine ld1 2 rfl (v := uv K) (by rw [qi, qh, Nat.zero_add, Nat.mul_one, Int.toNat_natCast]; rw [← hK]; exact tb_at _ _ (by rw [ZB]; omega)) ?_
       refine .to _ (qC _ _) ?_
       refine ⟨by omega, by omega, ?_⟩
       refine ld1 4 rfl (v := uv V) (by rw [qi, qh, Nat.zero_add, Nat.mul_one, Int.toNat_natCast]; rw [← hV]; exact QT _ _ _ (by omega)) ?_
       refine .to (ux (rndU st K V)) (qC _ _) ?_
       refine drs [dead, dead, dead, dead, dead, cl b14 (st.l.map uv).toArray 172] [] (.t 0 (.t 1 (.t 2 (.t 3 (.t 4 (.t 5 (.t 6 (.t 7 (.t 8 (.t 9 (.t 10 (.t 11 (.t 12 (.t 13 (.t 14 (.t 15 (.t 16 (.t 17 (.t 18 (.t 19 (.t 20 (.t 21 (.t 22 (.t 23 (.t 24 .nil))))))))))))))))))))))))) qc qe (by kernel_rfl) (.dead (.dead (.dead (.dead (.dead (.cons .nil)))))) ?_
       refine cz (fun w => ze st.a 28 (by decide) (by decide) w) ?_
       refine cz (fun w => ze st.a 34 (by decide) (by decide) w) ?_
       refine cz (fun w => ze st.a 39 (by decide) (by decide) w) ?_
       refine ⟨by decide, by decide, ld1 5 rfl (v := uv st.b) rfl ?_⟩
       refine ⟨by decide, by decide, ld1 5 rfl (v := uv st.c) rfl ?_⟩
       refine ⟨by decide, by decide, ld1 5 rfl (v := uv st.b) rfl ?_⟩
       refine ⟨by decide, by decide, ld1 5 rfl (v := uv st.c) rfl ?_⟩
       refine .to (ux (rndV st)) (by rw [QU, QU, zf, zf, qbj, zf, qbj]; exact qC _ _) ?_
       refine .to _ (qC _ _) ?_
       refine ⟨by decide, by decide, ld1 5 rfl (v := uv st.a) rfl ?_⟩
       refine ⟨by decide, by decide, ld1 5 rfl (v := uv st.b) rfl ?_⟩
       refine ⟨by decide, by decide, ld1 5 rfl (v := uv st.c) rfl ?_⟩
       refine ⟨by decide, by decide, ld1 5 rfl (v := uv st.d) rfl ?_⟩
       refine .to _ (qC _ _) ?_
       refine ⟨by decide, by decide, ld1 5 rfl (v := uv st.e) rfl ?_⟩
       refine ⟨by decide, by decide, ld1 5 rfl (v := uv st.f) rfl ?_⟩
       refine ⟨by decide, by decide, ld1 5 rfl (v := uv st.g) rfl ?_⟩
       refine bu (c := ((rnd st K V).l.map uv).toArray) (by kernel_rfl) ?_
       refine sN 5 rfl (qbU _ _) (qd2 _) ?_ (by kernel_rfl)
       refine .as ((t + 1 : Nat) : Int) (by omega) (by simp only [mn]; omega) (by simp only [mx]; omega) ?_
       refine ⟨t + 1, by omega, by omega, ?_⟩
       simp only [hst]
       exact ⟨⟨rfl, rfl, rfl, rfl, rfl, rfl, rfl, rfl, trivial⟩, .cons (.cons (.cons (.cons (.cons (.cons .nil))))), rfl⟩
     · obtain rfl : t = 80 := by omega
       generalize QC ktab ws s 80 = r at *
       refine lp qc (fun i : Nat => i ≤ 8) (fun i => ⟨[(2, ptr b2), (3, ptr b3), (5, .slice (some ⟨tb, 0, none⟩) 80 80), (7, .slice (some ⟨xb, 0, none⟩) pt.length cap), (8, .int .i64 (128 * k : Nat)), (9, ptr b9), (14, ptr b14), (20, .int .i64 i)], [cl b2 (List.replicate 64 (Value.int .u8 0)).toArray 41, cl b3 (((s.add r).l.map uv).take i ++ (s.l.map uv).drop i).toArray 172, cl tb (ktab.map uv).toArray 131, cl xb (Lib.byteCells pt ++ jj).toArray 5, cl b9 (qm ws 0) 173, cl b14 (r.l.map uv).toArray 172], []⟩) (fun i => 8 - i) 0 (Nat.zero_le _)
        ⟨⟨rfl, rfl, rfl, rfl, rfl, rfl, rfl, rfl, trivial⟩, .cons (.cons (.cons (.cons (.cons (.cons .nil))))), rfl⟩ ?_
       intro i hi
       refine cd (fun h => ?_) (fun h => ?_)
       · have hlt : i < 8 := by omega
         refine drs [cl b2 (List.replicate 64 (Value.int .u8 0)).toArray 41, cl b3 (((s.add r).l.map uv).take i ++ (s.l.map uv).drop i).toArray 172, cl tb (ktab.map uv).toArray 131, cl xb (Lib.byteCells pt ++ jj).toArray 5, cl b9 (qm ws 0) 173, cl b14 (r.l.map uv).toArray 172] [9] (.t 0 (.t 1 (.t 2 (.t 3 (.t 4 (.t 5 (.t 6 (.t 7 (.t 8 (.n 9 .nil)))))))))) qc qe (by kernel_rfl) (.cons (.cons (.cons (.cons (.cons (.cons .nil)))))) ?_
         refine ⟨by omega, by omega, ?_⟩
         refine ld1 1 rfl (v := uv (s.l.getD i 0)) (by rw [qi, qh, Nat.zero_add, Nat.mul_one, Int.toNat_natCast]; rw [List.getElem?_toArray, qaO _ _ _ (by simp [H8.l]; omega), ← List.getElem?_toArray]; exact zh s i hlt) ?_
         refine ⟨by omega, by omega, ?_⟩
         refine ld1 5 rfl (v := uv (r.l.getD i 0)) (by rw [qi, qh, Nat.zero_add, Nat.mul_one, Int.toNat_natCast]; exact zh r i hlt) ?_
         refine .to _ (qC _ _) ?_
         refine ⟨by omega, by omega, ?_⟩
         refine s1 1 rfl (by rw [qi, qh, Nat.zero_add, Nat.mul_one, Int.toNat_natCast]; simp [H8.l]; omega) ?_
         have hE : (((s.add r).l.map uv).take (i + 1) ++ (s.l.map uv).drop (i + 1)).toArray = (((s.add r).l.map uv).take i ++ (s.l.map uv).drop i).toArray.setIfInBounds (nad 0 (nmu (Int.toNat (i : Int)) 1)) (uv (s.l.getD i 0 + r.l.getD i 0)) := by
          rw [qi, qh, Nat.zero_add, Nat.mul_one, Int.toNat_natCast]; rw [List.setIfInBounds_toArray, ← qej s r i hlt, QJ _ _ _ (by simp [H8.l]) i (by simp [H8.l]; omega) (by rw [← List.getElem?_toArray]; exact zh _ i hlt)]
         refine .as ((i + 1 : Nat) : Int) (by omega) (by simp only [mn]; omega) (by simp only [mx]; omega) ?_
         refine ⟨i + 1, by omega, by omega, ?_⟩
         rw [hE]
         exact ⟨⟨rfl, rfl, rfl, rfl, rfl, rfl, rfl, rfl, trivial⟩, .cons (.cons (.cons (.cons (.cons (.cons .nil))))), rfl⟩
       · obtain rfl : i = 8 := by omega
         have hE : (((s.add r).l.map uv).take 8 ++ (s.l.map uv).drop 8).toArray = ((s.add r).l.map uv).toArray := rfl
         rw [hE, ← hpn]
         refine .as ((128 * (k + 1) : Nat) : Int) (by omega) (by simp only [mn]; omega) (by simp only [mx]; omega) ?_
         exact ⟨k + 1, by omega, by omega, ⟨rfl, rfl, rfl, rfl, rfl, trivial⟩, .cons (.cons (.cons (.cons .nil))), rfl⟩
 · obtain rfl : k = q := by omega
   generalize qA pt k = S at *
   intro b21
   have hol : (Lib.byteCells (zd S)).length = 64 := by rw [Lib.byteCells_length, qdN]
   refine lp qc (fun i : Nat => i ≤ 64) (fun i => ⟨[(2, ptr b2), (3, ptr b3), (21, ptr b21), (22, .int .i64 i)], [cl b2 (List.replicate 64 (Value.int .u8 0)).toArray 41, cl b3 (S.l.map uv).toArray 172, cl b21 ((Lib.byteCells (zd S)).take i ++ (List.replicate 64 (Value.int .u8 0)).drop i).toArray 41], []⟩) (fun i => 64 - i) 0 (Nat.zero_le _)
    ⟨⟨rfl, rfl, rfl, rfl, trivial⟩, .cons (.cons (.drop (.drop (.cons .nil)))), rfl⟩ ?_
   intro i hi
   refine cd (fun h => ?_) (fun h => ?_)
   · have hlt : i < 64 := by omega
     have hbyte : (Lib.byteCells (zd S))[i]? = some (.int .u8 (UInt8.ofNat ((S.l.getD (i / 8) 0).toNat / 2 ^ (56 - 8 * (i % 8)) % 256)).toNat) := by
      unfold Lib.byteCells; rw [List.getElem?_map, outB_at S i hlt]; rfl
     refine ⟨by omega, by simp only [mx]; omega, by decide, ?_⟩
     refine ⟨by omega, by omega, ?_⟩
     refine ld1 1 rfl (v := uv (S.l.getD (i / 8) 0)) (by rw [qi, qh, Nat.zero_add, Nat.mul_one, show Int.toNat ((i : Int) / 8) = i / 8 by omega]; exact zh S _ (by omega)) ?_
     refine ⟨by omega, by simp only [mx]; omega, by decide, ?_⟩
     refine .as ((7 - i % 8 : Nat) : Int) (by omega) (by simp only [mn]; omega) (by simp only [mx]; omega) ?_
     refine .as ((56 - 8 * (i % 8) : Nat) : Int) (by omega) (by simp only [mn]; omega) (by simp only [mx]; omega) ?_
     refine .same (by simp only [mn]; omega) (by simp only [mx]; omega) ?_
     refine ⟨by omega, ?_⟩
     refine .to ((UInt8.ofNat ((S.l.getD (i / 8) 0).toNat / 2 ^ (56 - 8 * (i % 8)) % 256)).toNat : Int) (by rw [Zs _ (56 - 8 * (i % 8)) (by omega) _ rfl]; exact Z5 _ _) ?_
     refine ⟨by omega, by omega, ?_⟩
     refine s1 2 rfl (by rw [qi, qh, Nat.zero_add, Nat.mul_one, Int.toNat_natCast]; simp [hol]; omega) ?_
     have hE : ((Lib.byteCells (zd S)).take (i + 1) ++ (List.replicate 64 (Value.int .u8 0)).drop (i + 1)).toArray = ((Lib.byteCells (zd S)).take i ++ (List.replicate 64 (Value.int .u8 0)).drop i).toArray.setIfInBounds (nad 0 (nmu (Int.toNat (i : Int)) 1)) (.int .u8 (UInt8.ofNat ((S.l.getD (i / 8) 0).toNat / 2 ^ (56 - 8 * (i % 8)) % 256)).toNat) := by
      rw [qi, qh, Nat.zero_add, Nat.mul_one, Int.toNat_natCast]; rw [List.setIfInBounds_toArray, QJ _ _ _ (by rw [hol]; rfl) i (by omega) hbyte]
     refine .as ((i + 1 : Nat) : Int) (by omega) (by simp only [mn]; omega) (by simp only [mx]; omega) ?_
     refine ⟨i + 1, by omega, by omega, ?_⟩
     rw [hE]
     exact ⟨⟨rfl, rfl, rfl, rfl, trivial⟩, .cons (.cons (.cons .nil)), rfl⟩
   · obtain rfl : i = 64 := by omega
     have hE : ((Lib.byteCells (zd S)).take 64 ++ (List.replicate 64 (Value.int .u8 0)).drop 64).toArray = (Lib.byteCells (zd S)).toArray := by
      rw [List.take_of_length_le (by omega)]; simp
     rw [hE]
     refine ldN 2 rfl (by simp [hol]) ?_
     refine sN 0 rfl (by simp [hol]) (Zj _) ?_ (by kernel_rfl)
     refine ldN 0 rfl (by simp [hol]) ?_
     exact rt rfl
end
end Go.Proofs.YtbgefoamhdgnaaaGreatDoor
namespace Go.Proofs.YtbgefoamhdgnaaaGreatDoor.S
section
open Go.RowKit Go.Sx
def TL (n : Nat) : List Value := Lib.byteCells ((List.range 8).map (qL n))
theorem ZG (n : Nat) : (TL n).length = 8 := by simp [TL, Lib.byteCells]
theorem TL_at (n j : Nat) (h : j < 8) : (TL n)[j]? = some (.int .u8 (qL n j).toNat) := by
 simp [TL, Lib.byteCells, h]
theorem qbn (v : Value) (bs : List UInt8) (w : World) (hrd : Rd w v (Lib.byteCells bs)) (hn : bs.length ≤ 1000000) :
 Calls Tryz.prog 69 ([v, .int .i64 64, .int .i64 8] : List Value).toArray w fun e w' => ∃ r, e = .returned (sv r (Qk bs).length) ∧ Rw 1 (Qk bs).length r (Lib.byteCells (Qk bs)) ∧ zq w w' r (Lib.byteCells (Qk bs)) 5 ∧ Below w.heap.size w w' := by
 have hrd0 := hrd
 obtain ⟨va, vc, hv, _⟩ := hrd0
 rw [Lib.byteCells_length] at hv
 have hmk := fun w => made1 (P := Tryz.prog) w Zq Qj rfl 8 8 (by decide) (by decide) (by decide)
 refine (enter qc Tryz.func69 rfl Tryz.ntmps69 rfl (St.start w) (R := fun v w' => ∃ r, v = sv r (Qk bs).length ∧ Rw 1 (Qk bs).length r (Lib.byteCells (Qk bs)) ∧ zq w w' r (Lib.byteCells (Qk bs)) 5 ∧ Below w.heap.size w w') ?_).mono (fun e w' ⟨v, he, r, hv, h⟩ => ⟨r, by rw [he, hv], h⟩)
 refine .mk #[] 5 (fun w => bs0 w) (fun b0 => ?_)
 refine ap (r := some (b0, 0, [])) (n := 0) (xs := []) (m := bs.length) (news := Lib.byteCells bs) 0 qc rfl Qj rfl rfl ⟨rfl, by decide, by decide, rfl⟩ (fun w' hs => by rw [← Lib.byteCells_length bs]; exact (hrd.below hs.below).src Zq (fun u hu => by obtain ⟨_, _, rfl⟩ := List.mem_map.1 hu; rfl)) (by omega) (by unfold maxLen; omega) (fun r1 hr1 => ?_)
 rw [Nat.zero_add, List.nil_append] at *
 refine .mk #[.int .u8 128] 5 (fun w => bs5 _ w) (fun bn => ?_)
 refine ap1 (r := r1) (n := bs.length) (xs := Lib.byteCells bs) 0 1 qc rfl Qj rfl rfl hr1 rfl rfl (by omega) (by unfold maxLen; omega) (fun r2 hr2 => ?_)
 refine lp qc (fun x : Nat × Sx.Own => x.1 ≤ qr bs.length ∧ Rw 1 (bs.length + 1 + x.1) x.2 (Lib.byteCells (bs ++ [128] ++ List.replicate x.1 0)))
  (fun x => ⟨[(0, v), (1, .int .i64 64), (2, .int .i64 8), (7, sv x.2 (bs.length + 1 + x.1))], [se x.2 (Lib.byteCells (bs ++ [128] ++ List.replicate x.1 0)) 5], []⟩) (fun x => qr bs.length - x.1) (0, r2)
  ⟨Nat.zero_le _, by simpa [Lib.byteCells_append, qay] using hr2⟩ ⟨⟨rfl, rfl, rfl, rfl, trivial⟩, ?_, rfl⟩ ?_
 · simp only [List.replicate_zero, List.append_nil, Lib.byteCells_append, qay]
   exact .cons .nil
 rintro ⟨k, r⟩ ⟨hk1, hR⟩
 simp only at hk1 hR
 rcases r with _ | ⟨rb, cap, jj⟩
 · have := hR.2; omega
 have hfl : qr bs.length < 64 := by unfold qr; omega
 refine .as ((bs.length + 1 + k + 8 : Nat) : Int) (by simp only; omega) (by simp only [mn]; omega) (by simp only [mx]; omega) ?_
 refine ⟨by omega, by simp only [mx]; omega, by decide, ?_⟩
 refine cne (fun h => ?_) (fun h => ?_)
 · have hlt : k < qr bs.length := by
    rcases Nat.lt_or_ge k (qr bs.length) with h1 | h1
    · exact h1
    · exfalso; apply h; obtain rfl : k = qr bs.length := by omega
      unfold qr; omega
   refine .mk #[.int .u8 0] 5 (fun w => bs5 _ w) (fun bn => ?_)
   refine ap1 (r := some (rb, cap, jj)) (xs := Lib.byteCells (bs ++ [128] ++ List.replicate k 0)) 0 1 qc rfl Qj rfl rfl hR rfl rfl (by omega) (by unfold maxLen; omega) (fun r3 hr3 => ?_)
   have e1 : Lib.byteCells (bs ++ [128] ++ List.replicate (k + 1) 0) = Lib.byteCells (bs ++ [128] ++ List.replicate k 0) ++ [.int .u8 0] := by
    rw [qaH, ← List.append_assoc, Lib.byteCells_append]; rfl
   rw [← e1] at hr3
   refine ⟨(k + 1, r3), ⟨by simp only; omega, hr3⟩, by simp only; omega, ?_⟩
   simp only [e1]
   exact ⟨⟨rfl, rfl, rfl, rfl, trivial⟩, .cons .nil, rfl⟩
 · obtain rfl : k = qr bs.length := by
    unfold qr at hk1 ⊢; omega
   refine .mk 8 8 _ _ hmk fun tb => ?_
   rw [hv]
   refine .as 7 (by decide) (by decide) (by decide) ?_
   refine ⟨by omega, by simp only [mx]; omega, by decide, ?_⟩
   refine .as (((bs.length % 32) * 8 : Nat) : Int) (by omega) (by simp only [mn]; omega) (by simp only [mx]; omega) ?_
   refine .to ((qL bs.length 7).toNat : Int) (by rw [zK]; show ((_ : Nat) : Int) % 256 = _; omega) ?_
   refine ⟨by decide, by decide, ?_⟩
   refine s1 1 rfl (by decide) ?_
   refine ⟨by omega, by simp only [mx]; omega, by decide, ?_⟩
   refine .as 6 (by decide) (by decide) (by decide) ?_
   generalize hbn : bs.length = n at *
   have hpb : Qk bs = bs ++ [128] ++ List.replicate (qr n) 0 ++ (List.range 8).map (qL n) := by rw [← hbn]; rfl
   have hpl := (ZA bs).2
   rw [hbn] at hpl
   have hi15 : ((List.replicate 8 (Value.int .u8 0)).toArray.setIfInBounds (nad 0 (nmu (Int.toNat 7) 1)) (.int .u8 (qL n 7).toNat)) = (List.replicate 7 (Value.int .u8 0) ++ (TL n).drop 7).toArray := by
    rw [← qby 7 (TL n) _ (.int .u8 0) (by rw [ZG]; decide) (TL_at n 7 (by decide)), List.drop_of_length_le (by rw [ZG]; decide)]
    rfl
   refine lp qc (fun m : Nat => 1 ≤ m ∧ m ≤ 8) (fun m => ⟨[(7, sv (some (rb, cap, jj)) (n + 1 + qr n)), (8, .slice (some ⟨tb, 0, none⟩) 8 8), (9, .int .i64 (8 * n / 256 ^ m : Nat)), (10, .int .i64 (7 - (m : Int)))],
    [se (some (rb, cap, jj)) (Lib.byteCells (bs ++ [128] ++ List.replicate (qr n) 0)) 5, cl tb (List.replicate (8 - m) (Value.int .u8 0) ++ (TL n).drop (8 - m)).toArray 5], []⟩) (fun m => 8 - m) 1 ⟨Nat.le_refl _, by decide⟩
    ⟨⟨rfl, rfl, congrArg (fun x : Int => some (Value.int .i64 x)) (show (n : Int) / 32 = ((8 * n / 256 ^ 1 : Nat) : Int) by omega), rfl, trivial⟩, by simp only [show 8 - 1 = 7 from rfl, ← hi15]; exact .cons (.cons .nil), rfl⟩ ?_
   intro m hm
   refine cd (fun h => ?_) (fun h => ?_)
   · have hlt : m < 8 := by omega
     have hdiv : 8 * n / 256 ^ (m + 1) = 8 * n / 256 ^ m / 256 := by rw [Nat.pow_succ, Nat.div_div_eq_div_mul]
     have hle : 8 * n / 256 ^ m ≤ 8 * n := Nat.div_le_self _ _
     have hE : (List.replicate (8 - (m + 1)) (Value.int .u8 0) ++ (TL n).drop (8 - (m + 1))).toArray = (List.replicate (8 - m) (Value.int .u8 0) ++ (TL n).drop (8 - m)).toArray.setIfInBounds (nad 0 (nmu (Int.toNat (7 - (m : Int))) 1)) (.int .u8 (qL n (7 - m)).toNat) := by
      rw [qi, qh, Nat.zero_add, Nat.mul_one, show Int.toNat (7 - (m : Int)) = 7 - m by omega, List.setIfInBounds_toArray, show 8 - m = 7 - m + 1 by omega, qby (7 - m) (TL n) _ _ (by rw [ZG]; omega) (TL_at n _ (by omega)), show 8 - (m + 1) = 7 - m by omega]
     have htv : (qL n (7 - m)).toNat = 8 * n / 256 ^ m % 256 := by rw [zK, show 7 - (7 - m) = m by omega]
     generalize 8 * n / 256 ^ m = q at *
     refine ⟨by omega, by simp only [mx]; omega, by decide, ?_⟩
     refine .to ((qL n (7 - m)).toNat : Int) (by rw [htv]; show ((_ : Nat) : Int) % 256 % 256 = _; omega) ?_
     refine ⟨by omega, by omega, ?_⟩
     refine s1 1 rfl (by rw [qi, qh, Nat.zero_add, Nat.mul_one]; simp [ZG]; omega) ?_
     refine ⟨by omega, by simp only [mx]; omega, by decide, ?_⟩
     refine .as (7 - ((m + 1 : Nat) : Int)) (by omega) (by simp only [mn]; omega) (by simp only [mx]; omega) ?_
     refine ⟨m + 1, by omega, by omega, ?_⟩
     simp only [hE]
     exact ⟨⟨rfl, rfl, congrArg (fun x : Int => some (Value.int .i64 x)) (show (q : Int) / 256 = ((8 * n / 256 ^ (m + 1) : Nat) : Int) by rw [hdiv]; omega), rfl, trivial⟩, .cons (.cons .nil), rfl⟩
   · obtain rfl : m = 8 := by omega
     have hT : (List.replicate (8 - 8) (Value.int .u8 0) ++ (TL n).drop (8 - 8)).toArray = (TL n).toArray := by simp
     rw [hT]
     refine ap (r := some (rb, cap, jj)) (n := n + 1 + qr n) (xs := Lib.byteCells (bs ++ [128] ++ List.replicate (qr n) 0)) (m := 8) (news := TL n) 0 qc rfl Qj rfl rfl hR (srcE (C := ⟨Tryz.prog, tab, 57, [], w, none⟩) (e' := 5) (tx := 48) (z := 1) rfl qc (src 1 rfl (by rw [List.drop_zero, List.take_of_length_le (Nat.le_refl _)])) (ZG n) (fun u hu => by obtain ⟨_, _, rfl⟩ := List.mem_map.1 hu; rfl)) (by omega) (by unfold maxLen; omega) (fun r3 hr3 => ?_)
     have e1 : Lib.byteCells (bs ++ [128] ++ List.replicate (qr n) 0) ++ TL n = Lib.byteCells (Qk bs) := by rw [hpb, Lib.byteCells_append _ ((List.range 8).map (qL n))]; rfl
     have e2 : n + 1 + qr n + 8 = (Qk bs).length := by omega
     rw [e1, e2] at hr3 ⊢
     exact ⟨fun w1 hs1 => ⟨r3, rfl, hr3, Qx hs1 rfl 0 rfl, hs1.below⟩⟩
end
section
open Go.RowKit Go.Sx
theorem Qm (x : Wd) (n : Nat) (h0 : 0 < n) (hn : n < 32) (w : World) : Calls Tryz.prog 70 ([uv x, .int .u64 n] : List Value).toArray w fun e w' => e = .returned (uv (rot x n)) ∧ Below w.heap.size w w' := by
 refine qj qc Tryz.func70 rfl Tryz.ntmps70 rfl (St.start w) ?_
 refine ⟨by omega, ?_⟩
 refine .as ((32 - n : Nat) : Int) (by omega) (by simp only [mn]; omega) (by simp only [mx]; omega) ?_
 refine ⟨by omega, .to (ux (x <<< (32 - n))) (qdj x (32 - n) (by omega) _ rfl) ?_⟩
 refine .to (ux (rot x n)) (by rw [Zs x n (by omega) _ rfl, ← rot_add x n hn]; exact qC _ _) ?_
 exact rt rfl
theorem outB_at (S : H8) (i : Nat) (h : i < 32) : (zd S)[i]? = some (UInt8.ofNat ((S.l.getD (i / 4) 0).toNat / 2 ^ (24 - 8 * (i % 4)) % 256)) := by
 have e : zd S = (List.range 32).map (fun i => UInt8.ofNat ((S.l.getD (i / 4) 0).toNat / 2 ^ (24 - 8 * (i % 4)) % 256)) := rfl
 rw [e]; simp [h]
theorem qdN (S : H8) : (zd S).length = 32 := by simp [zd, H8.l, Qd]
def wt (p : List UInt8) (t : Nat) : List Wd := qK (t - 16) ((qp p).take t)
theorem wt_len (p : List UInt8) (t : Nat) : (wt p t).length = t := by
 unfold wt; rw [zR, List.length_take, show (qp p).length = 16 by simp [qp]]; omega
theorem qdf (p : List UInt8) (t : Nat) (h : t ≤ 16) : wt p t = (qp p).take t := by unfold wt; rw [show t - 16 = 0 by omega]; rfl
theorem qah (p : List UInt8) (t : Nat) (h : 16 ≤ t) : wt p t = qK (t - 16) (qp p) := by unfold wt; rw [List.take_of_length_le (by simp [qp]; omega)]
theorem wt_next (p : List UInt8) (t : Nat) (h : 16 ≤ t) : wt p (t + 1) = wt p t ++ [zD (wt p t)] := by
 rw [qah p (t + 1) (by omega), qah p t h, show t + 1 - 16 = t - 16 + 1 by omega]; rfl
theorem qdh (ws : List Wd) (x y : Wd) (n : Nat) : (qm (ws ++ [x]) n).setIfInBounds ws.length (uv y) = qm (ws ++ [y]) n := by
 unfold qm
 simp
theorem qbv (ws : List Wd) (n : Nat) : qm ws (n + 1) = qm (ws ++ [0]) n := by
 unfold qm
 rw [List.replicate_succ]; simp; rfl
theorem rshort_any (v : Value) (bs : List UInt8) (w : World) (hrd : Rd w v (Lib.byteCells bs)) (hn : bs.length ≤ 1000000) :
 Calls Tryz.prog 39 ([v] : List Value).toArray w fun e w' => e = .returned (.agg (Lib.byteCells (shaB bs)).toArray) ∧ Below w.heap.size w w' := by
 refine qj qc Tryz.func39 rfl Tryz.ntmps39 rfl (St.start w) ?_
 intro b2 b3
 refine cn (fun w' _ => qdx w') (fun rb => ?_)
 refine cn (fun w' _ => qdw w') (fun tb => ?_)
 refine lp qc (fun i : Nat => i ≤ 8) (fun i => ⟨[(0, v), (2, ptr b2), (3, ptr b3), (4, .slice (some ⟨rb, 0, none⟩) 8 8), (5, .slice (some ⟨tb, 0, none⟩) 80 80), (6, .int .i64 i)],
  [cl b2 (List.replicate 32 (Value.int .u8 0)).toArray 39, cl b3 ((kroots.l.map uv).take i ++ (List.replicate 8 (Value.int .u32 0)).drop i).toArray 128, cl rb (R64.map uw).toArray 131, cl tb (K64.map uw).toArray 131], []⟩) (fun i => 8 - i) 0 (Nat.zero_le _)
  ⟨⟨rfl, rfl, rfl, rfl, rfl, rfl, trivial⟩, .cons (.cons (.cons (.cons .nil))), rfl⟩ ?_
 intro i hi
 refine cd (fun h => ?_) (fun h => ?_)
 · have hlt : i < 8 := by omega
   refine ⟨by omega, by omega, ?_⟩
   refine ld1 2 rfl (v := uw (R64.getD i 0)) (by rw [qi, qh, Nat.zero_add, Nat.mul_one, Int.toNat_natCast, List.getElem?_toArray]; simp [show i < R64.length by exact hlt]) ?_
   refine ⟨by decide, ?_⟩
   refine .to (ux (kroots.l.getD i 0)) (half_u _ _ (qeJ i hlt)) ?_
   refine ⟨by omega, by omega, ?_⟩
   refine s1 1 rfl (by rw [qi, qh, Nat.zero_add, Nat.mul_one, Int.toNat_natCast]; simp [H8.l]; omega) ?_
   have hE : ((kroots.l.map uv).take (i + 1) ++ (List.replicate 8 (Value.int .u32 0)).drop (i + 1)).toArray = ((kroots.l.map uv).take i ++ (List.replicate 8 (Value.int .u32 0)).drop i).toArray.setIfInBounds (nad 0 (nmu (Int.toNat (i : Int)) 1)) (uv (kroots.l.getD i 0)) := by
    rw [qi, qh, Nat.zero_add, Nat.mul_one, Int.toNat_natCast, List.setIfInBounds_toArray, QJ _ _ _ (by simp [H8.l]) i (by simp [H8.l]; omega) (by rw [← List.getElem?_toArray]; exact zh _ i hlt)]
   refine .as ((i + 1 : Nat) : Int) (by omega) (by simp only [mn]; omega) (by simp only [mx]; omega) ?_
   refine ⟨i + 1, by omega, by omega, ?_⟩
   rw [hE]
   exact ⟨⟨rfl, rfl, rfl, rfl, rfl, rfl, trivial⟩, .cons (.cons (.cons (.cons .nil))), rfl⟩
 obtain rfl : i = 8 := by omega
 have hE : ((kroots.l.map uv).take 8 ++ (List.replicate 8 (Value.int .u32 0)).drop 8).toArray = (kroots.l.map uv).toArray := rfl
 rw [hE]
 refine co (fun w' hs => qbn v bs w' (hrd.below hs.below) hn) (fun r hr => ?_)
 have hsha : shaB bs = zd (qA (Qk bs) ((Qk bs).length / 64)) := rfl
 obtain ⟨hpl1, hpl2⟩ := ZA bs
 have hfl : qr bs.length < 64 := by unfold qr; omega
 rw [hsha]
 rcases r with _ | ⟨xb, cap, jj⟩
 · have := hr.2; omega
 generalize Qk bs = pt at *
 obtain ⟨q, hq⟩ : ∃ q, pt.length = 64 * q := ⟨pt.length / 64, by omega⟩
 have hq2 : pt.length / 64 = q := by omega
 rw [hq2]
 refine lp qc (fun k : Nat => k ≤ q) (fun k => ⟨[(2, ptr b2), (3, ptr b3), (5, .slice (some ⟨tb, 0, none⟩) 80 80), (7, .slice (some ⟨xb, 0, none⟩) pt.length cap), (8, .int .i64 (64 * k : Nat))],
  [cl b2 (List.replicate 32 (Value.int .u8 0)).toArray 39, cl b3 ((qA pt k).l.map uv).toArray 128, cl tb (K64.map uw).toArray 131, cl xb (Lib.byteCells pt ++ jj).toArray 5], []⟩) (fun k => q - k) 0 (Nat.zero_le _)
  ⟨⟨rfl, rfl, rfl, rfl, rfl, trivial⟩, .cons (.cons (.drop (.cons (.cons .nil)))), rfl⟩ ?_
 intro k hk
 refine cd (fun h => ?_) (fun h => ?_)
 · have hlt : k < q := by omega
   intro b9
   obtain ⟨p, hp⟩ : ∃ p, p = (pt.drop (64 * k)).take 64 := ⟨_, rfl⟩
   have hpl : p.length = 64 := by rw [hp, List.length_take, List.length_drop]; omega
   have hpc : ∀ i, i < 64 → (Lib.byteCells pt ++ jj).toArray[64 * k + i]? = some (.int .u8 (p.getD i 0).toNat) := by
    intro i hi
    rw [List.getElem?_toArray, List.getElem?_append_left (by rw [Lib.byteCells_length]; omega), qaX _ _ (by omega), hp]
    simp [List.getD, hi]
   have hpn : qA pt (k + 1) = (qA pt k).add (QC ktab (qK 48 (qp p)) (qA pt k) 64) := by rw [hp]; rfl
   have hw16 : (qp p).length = 16 := by simp [qp]
   refine lp qc (fun t : Nat => t ≤ 64) (fun t => ⟨[(2, ptr b2), (3, ptr b3), (5, .slice (some ⟨tb, 0, none⟩) 80 80), (7, .slice (some ⟨xb, 0, none⟩) pt.length cap), (8, .int .i64 (64 * k : Nat)), (9, ptr b9), (10, .int .i64 t)], [cl b2 (List.replicate 32 (Value.int .u8 0)).toArray 39, cl b3 ((qA pt k).l.map uv).toArray 128, cl tb (K64.map uw).toArray 131, cl xb (Lib.byteCells pt ++ jj).toArray 5, cl b9 (qm (wt p t) (64 - t)) 133], []⟩) (fun t => 64 - t) 0 (Nat.zero_le _)
    ⟨⟨rfl, rfl, rfl, rfl, rfl, rfl, rfl, trivial⟩, .cons (.cons (.cons (.cons (.cons .nil)))), rfl⟩ ?_
   intro t ht
   have hwl := wt_len p t
   refine cd (fun h => ?_) (fun h => ?_)
   · have htl : t < 64 := by omega
     refine cd (fun h16 => ?_) (fun h16 => ?_)
     · have hl16 : t < 16 := by omega
       have hz0 : qm (wt p t) (64 - t) = qm (wt p t ++ [be (((p.drop (4 * t)).take 4).take 0)]) (63 - t) := by
        rw [show 64 - t = 63 - t + 1 by omega, qbv]; rfl
       rw [hz0]
       refine lp qc (fun i : Nat => i ≤ 4) (fun i => ⟨[(2, ptr b2), (3, ptr b3), (5, .slice (some ⟨tb, 0, none⟩) 80 80), (7, .slice (some ⟨xb, 0, none⟩) pt.length cap), (8, .int .i64 (64 * k : Nat)), (9, ptr b9), (10, .int .i64 t), (11, .int .i64 i)], [cl b2 (List.replicate 32 (Value.int .u8 0)).toArray 39, cl b3 ((qA pt k).l.map uv).toArray 128, cl tb (K64.map uw).toArray 131, cl xb (Lib.byteCells pt ++ jj).toArray 5, cl b9 (qm (wt p t ++ [be (((p.drop (4 * t)).take 4).take i)]) (63 - t)) 133], []⟩) (fun i => 4 - i) 0 (Nat.zero_le _)
        ⟨⟨rfl, rfl, rfl, rfl, rfl, rfl, rfl, rfl, trivial⟩, .cons (.cons (.cons (.cons (.cons .nil)))), rfl⟩ ?_
       intro i hi
       refine cd (fun h => ?_) (fun h => ?_)
       · have hi8 : i < 4 := by omega
         refine drs [cl b2 (List.replicate 32 (Value.int .u8 0)).toArray 39, cl b3 ((qA pt k).l.map uv).toArray 128, cl tb (K64.map uw).toArray 131, cl xb (Lib.byteCells pt ++ jj).toArray 5, cl b9 (qm (wt p t ++ [be (((p.drop (4 * t)).take 4).take i)]) (63 - t)) 133] [17] (.t 0 (.t 1 (.t 2 (.t 3 (.t 4 (.t 5 (.t 6 (.t 7 (.t 8 (.t 9 (.t 10 (.t 11 (.t 12 (.t 13 (.t 14 (.t 15 (.t 16 (.n 17 .nil)))))))))))))))))) qc qe (by kernel_rfl) (.cons (.cons (.cons (.cons (.cons .nil))))) ?_
         refine ⟨by omega, by omega, ?_⟩
         refine ld1 4 rfl (v := uv (be (((p.drop (4 * t)).take 4).take i))) (by rw [qi, qh, Nat.zero_add, Nat.mul_one, Int.toNat_natCast]; rw [QT _ _ _ (by rw [List.length_append, hwl]; simp)]; simp [hwl]) ?_
         refine .to (ux (be (((p.drop (4 * t)).take 4).take i) * BitVec.ofNat 32 256)) (u_mul _ 256 (by decide)) ?_
         refine .as ((4 * t : Nat) : Int) (by omega) (by simp only [mn]; omega) (by simp only [mx]; omega) ?_
         refine .as ((64 * k + 4 * t : Nat) : Int) (by omega) (by simp only [mn]; omega) (by simp only [mx]; omega) ?_
         refine .as ((64 * k + (4 * t + i) : Nat) : Int) (by omega) (by simp only [mn]; omega) (by simp only [mx]; omega) ?_
         refine ⟨by omega, by omega, ?_⟩
         refine ld1 3 rfl (v := .int .u8 (p.getD (4 * t + i) 0).toNat) (by rw [qi, qh, Nat.zero_add, Nat.mul_one, Int.toNat_natCast]; exact hpc _ (by omega)) ?_
         have hb := (p.getD (4 * t + i) 0).toNat_lt
         refine .same (by simp only [mn]; omega) (by simp only [mx]; omega) ?_
         have hbe : be (((p.drop (4 * t)).take 4).take (i + 1)) = bw (be (((p.drop (4 * t)).take 4).take i)) (p.getD (4 * t + i) 0) := by
          rw [qaT p hpl (4 * t) i (by omega) hi8, qb6]
         refine .to (ux (be (((p.drop (4 * t)).take 4).take (i + 1)))) (by rw [hbe, ← bw_add, ← qbw]; exact qC _ _) ?_
         refine ⟨by omega, by omega, ?_⟩
         refine s1 4 rfl (by rw [qi, qh, Nat.zero_add, Nat.mul_one, Int.toNat_natCast]; simp [qm, hwl]) ?_
         refine .as ((i + 1 : Nat) : Int) (by omega) (by simp only [mn]; omega) (by simp only [mx]; omega) ?_
         have hE : qm (wt p t ++ [be (((p.drop (4 * t)).take 4).take (i + 1))]) (63 - t) = (qm (wt p t ++ [be (((p.drop (4 * t)).take 4).take i)]) (63 - t)).setIfInBounds (nad 0 (nmu (Int.toNat (t : Int)) 1)) (uv (be (((p.drop (4 * t)).take 4).take (i + 1)))) := by
          rw [qi, qh, Nat.zero_add, Nat.mul_one, Int.toNat_natCast]; rw [← qdh _ (be (((p.drop (4 * t)).take 4).take i)), hwl]
         refine ⟨i + 1, by omega, by omega, ?_⟩
         simp only [hE]
         exact ⟨⟨rfl, rfl, rfl, rfl, rfl, rfl, rfl, rfl, trivial⟩, .cons (.cons (.cons (.cons (.cons .nil)))), rfl⟩
       · obtain rfl : i = 4 := by omega
         have hE : qm (wt p (t + 1)) (64 - (t + 1)) = qm (wt p t ++ [be (((p.drop (4 * t)).take 4).take 4)]) (63 - t) := by
          rw [qdf p (t + 1) (by omega), qdf p t (by omega), Zp p hpl t hl16, List.take_take, show 64 - (t + 1) = 63 - t by omega]; rfl
         refine .as ((t + 1 : Nat) : Int) (by omega) (by simp only [mn]; omega) (by simp only [mx]; omega) ?_
         refine ⟨t + 1, by omega, by omega, ?_⟩
         simp only [hE]
         exact ⟨⟨rfl, rfl, rfl, rfl, rfl, rfl, rfl, trivial⟩, .cons (.cons (.cons (.cons (.cons .nil)))), rfl⟩
     · have h16' : 16 ≤ t := by omega
       refine .as ((t - 2 : Nat) : Int) (by omega) (by simp only [mn]; omega) (by simp only [mx]; omega) ?_
       refine ⟨by omega, by omega, ?_⟩
       refine ld1 4 rfl (v := uv ((wt p t).getD (t - 2) 0)) (by rw [qi, qh, Nat.zero_add, Nat.mul_one, Int.toNat_natCast]; exact QT _ _ _ (by omega)) ?_
       refine .as ((t - 15 : Nat) : Int) (by omega) (by simp only [mn]; omega) (by simp only [mx]; omega) ?_
       refine ⟨by omega, by omega, ?_⟩
       refine ld1 4 rfl (v := uv ((wt p t).getD (t - 15) 0)) (by rw [qi, qh, Nat.zero_add, Nat.mul_one, Int.toNat_natCast]; exact QT _ _ _ (by omega)) ?_
       have hnx : zD (wt p t) = zo ((wt p t).getD (t - 2) 0) 17 19 10 true + (wt p t).getD (t - 7) 0 + zo ((wt p t).getD (t - 15) 0) 7 18 3 true + (wt p t).getD (t - 16) 0 := by unfold zD; rw [hwl]
       generalize hX : (wt p t).getD (t - 2) 0 = X at *
       generalize hY : (wt p t).getD (t - 15) 0 = Y at *
       refine drs [dead, dead, dead, dead, cl b9 (qm (wt p t) (64 - t)) 133] [29] (.t 0 (.t 1 (.t 2 (.t 3 (.t 4 (.t 5 (.t 6 (.t 7 (.t 8 (.t 9 (.t 10 (.t 11 (.t 12 (.t 13 (.t 14 (.t 15 (.t 16 (.t 17 (.t 18 (.t 19 (.t 20 (.t 21 (.t 22 (.t 23 (.t 24 (.t 25 (.t 26 (.t 27 (.t 28 (.n 29 .nil)))))))))))))))))))))))))))))) qc qe (by kernel_rfl) (.dead (.dead (.dead (.dead (.cons .nil))))) ?_
       refine cz (fun w => Qm X 17 (by decide) (by decide) w) ?_
       refine cz (fun w => Qm X 19 (by decide) (by decide) w) ?_
       refine ⟨by decide, ?_⟩
       refine .as ((t - 7 : Nat) : Int) (by omega) (by simp only [mn]; omega) (by simp only [mx]; omega) ?_
       refine ⟨by omega, by omega, ?_⟩
       refine ld1 4 rfl (v := uv ((wt p t).getD (t - 7) 0)) (by rw [qi, qh, Nat.zero_add, Nat.mul_one, Int.toNat_natCast]; exact QT _ _ _ (by omega)) ?_
       refine .to (ux (zo X 17 19 10 true + (wt p t).getD (t - 7) 0)) (by rw [QU, Zs X 10 (by decide) 10 rfl, QU]; exact qC _ _) ?_
       refine cz (fun w => Qm Y 7 (by decide) (by decide) w) ?_
       refine cz (fun w => Qm Y 18 (by decide) (by decide) w) ?_
       refine ⟨by decide, ?_⟩
       refine .to (ux (zo X 17 19 10 true + (wt p t).getD (t - 7) 0 + zo Y 7 18 3 true)) (by rw [QU, Zs Y 3 (by decide) 3 rfl, QU]; exact qC _ _) ?_
       refine .as ((t - 16 : Nat) : Int) (by omega) (by simp only [mn]; omega) (by simp only [mx]; omega) ?_
       refine ⟨by omega, by omega, ?_⟩
       refine ld1 4 rfl (v := uv ((wt p t).getD (t - 16) 0)) (by rw [qi, qh, Nat.zero_add, Nat.mul_one, Int.toNat_natCast]; exact QT _ _ _ (by omega)) ?_
       refine .to (ux (zD (wt p t))) (by rw [hnx]; exact qC _ _) ?_
       refine ⟨by omega, by omega, ?_⟩
       refine s1 4 rfl (by rw [qi, qh, Nat.zero_add, Nat.mul_one, Int.toNat_natCast]; simp [qm, hwl]; omega) ?_
       have hE : qm (wt p (t + 1)) (64 - (t + 1)) = (qm (wt p t) (64 - t)).setIfInBounds (nad 0 (nmu (Int.toNat (t : Int)) 1)) (uv (zD (wt p t))) := by
        rw [qi, qh, Nat.zero_add, Nat.mul_one, Int.toNat_natCast]; rw [wt_next p t h16', show 64 - t = 63 - t + 1 by omega, qbv, show 64 - (t + 1) = 63 - t by omega, ← qdh (wt p t) 0, hwl]
       refine .as ((t + 1 : Nat) : Int) (by omega) (by simp only [mn]; omega) (by simp only [mx]; omega) ?_
       refine ⟨t + 1, by omega, by omega, ?_⟩
       simp only [hE]
       exact ⟨⟨rfl, rfl, rfl, rfl, rfl, rfl, rfl, trivial⟩, .cons (.cons (.cons (.cons (.cons .nil)))), rfl⟩
   · obtain rfl : t = 64 := by omega
     have hW : wt p 64 = qK 48 (qp p) := qah p 64 (by decide)
     have hgl : (qK 48 (qp p)).length = 64 := by rw [zR, hw16]
     rw [hW] at *
     generalize qK 48 (qp p) = ws at *
     generalize qA pt k = s at *
     refine ldN 1 rfl rfl ?_
     intro b14
     refine sN 5 rfl rfl rfl ?_ (by kernel_rfl)
     refine lp qc (fun t : Nat => t ≤ 64) (fun t => ⟨[(2, ptr b2), (3, ptr b3), (5, .slice (some ⟨tb, 0, none⟩) 80 80), (7, .slice (some ⟨xb, 0, none⟩) pt.length cap), (8, .int .i64 (64 * k : Nat)), (9, ptr b9), (14, ptr b14), (15, .int .i64 t)], [cl b2 (List.replicate 32 (Value.int .u8 0)).toArray 39, cl b3 (s.l.map uv).toArray 128, cl tb (K64.map uw).toArray 131, cl xb (Lib.byteCells pt ++ jj).toArray 5, cl b9 (qm ws 0) 133, cl b14 ((QC ktab ws s t).l.map uv).toArray 128], []⟩) (fun t => 64 - t) 0 (Nat.zero_le _)
      ⟨⟨rfl, rfl, rfl, rfl, rfl, rfl, rfl, rfl, trivial⟩, .cons (.cons (.cons (.cons (.cons (.cons .nil))))), rfl⟩ ?_
     intro t ht
     refine cd (fun h => ?_) (fun h => ?_)
     · have htl : t < 64 := by omega
       have hst : QC ktab ws s (t + 1) = rnd (QC ktab ws s t) (ktab.getD t 0) (ws.getD t 0) := rfl
       generalize QC ktab ws s t = st at *
       generalize hK : ktab.getD t 0 = K at *
       generalize hV : ws.getD t 0 = V at *
       refine ⟨by decide, by decide, ld1 5 rfl (v := uv st.e) rfl ?_⟩
       refine ⟨by decide, by decide, ld1 5 rfl (v := uv st.a) rfl ?_⟩
       refine drs [dead, dead, cl tb (K64.map uw).toArray 131, dead, cl b9 (qm ws 0) 133, cl b14 (st.l.map uv).toArray 128] [] (.t 0 (.t 1 (.t 2 (.t 3 (.t 4 (.t 5 (.t 6 (.t 7 (.t 8 (.t 9 (.t 10 (.t 11 (.t 12 (.t 13 (.t 14 (.t 15 (.t 16 (.t 17 (.t 18 (.t 19 (.t 20 (.t 21 (.t 22 (.t 23 (.t 24 (.t 25 (.t 26 (.t 27 (.t 28 (.t 29 (.t 30 (.t 31 (.t 32 (.t 33 .nil)))))))))))))))))))))))))))))))))) qc qe (by kernel_rfl) (.dead (.dead (.cons (.dead (.cons (.cons .nil)))))) ?_
       refine ⟨by decide, by decide, ld1 5 rfl (v := uv st.h) rfl ?_⟩
       refine cz (fun w => Qm st.e 6 (by decide) (by decide) w) ?_
       refine cz (fun w => Qm st.e 11 (by decide) (by decide) w) ?_
       refine cz (fun w => Qm st.e 25 (by decide) (by decide) w) ?_
       refine .to (ux (st.h + zo st.e 6 11 25 false)) (by rw [QU, QU]; exact qC _ _) ?_
       refine ⟨by decide, by decide, ld1 5 rfl (v := uv st.f) rfl ?_⟩
       refine .as (ux (~~~st.e)) (u_neg _) (ux_lt _).1 (by have := (ux_lt (~~~st.e)).2; simp only [mx]; omega) ?_
       refine ⟨by decide, by decide, ld1 5 rfl (v := uv st.g) rfl ?_⟩
       refine .to (ux (st.e &&& st.f ||| ~~~st.e &&& st.g)) (by rw [zf, zf, ← ch_add]; exact qC _ _) ?_
       refine .to _ (qC _ _) ?_
       refine ⟨by omega, by omega, ?_⟩
       refine ld1 2 rfl (v := uw (K64.getD t 0)) (by rw [qi, qh, Nat.zero_add, Nat.mul_one, Int.toNat_natCast, List.getElem?_toArray]; simp [show t < K64.length by rw [k64_len]; omega]) ?_
       refine ⟨by decide, ?_⟩
       refine .to (ux K) (by rw [← hK]; exact half_u _ _ (tab_half t htl)) ?_
       refine .to _ (qC _ _) ?_
       refine ⟨by omega, by omega, ?_⟩
       refine ld1 4 rfl (v := uv V) (by rw [qi, qh, Nat.zero_add, Nat.mul_one, Int.toNat_natCast]; rw [← hV]; exact QT _ _ _ (by omega)) ?_
       refine .to (ux (rndU st K V)) (qC _ _) ?_
       refine drs [dead, dead, dead, dead, dead, cl b14 (st.l.map uv).toArray 128] [] (.t 0 (.t 1 (.t 2 (.t 3 (.t 4 (.t 5 (.t 6 (.t 7 (.t 8 (.t 9 (.t 10 (.t 11 (.t 12 (.t 13 (.t 14 (.t 15 (.t 16 (.t 17 (.t 18 (.t 19 (.t 20 (.t 21 (.t 22 (.t 23 (.t 24 .nil))))))))))))))))))))))))) qc qe (by kernel_rfl) (.dead (.dead (.dead (.dead (.dead (.cons .nil)))))) ?_
       refine cz (fun w => Qm st.a 2 (by decide) (by decide) w) ?_
       refine cz (fun w => Qm st.a 13 (by decide) (by decide) w) ?_
       refine cz (fun w => Qm st.a 22 (by decide) (by decide) w) ?_
       refine ⟨by decide, by decide, ld1 5 rfl (v := uv st.b) rfl ?_⟩
       refine ⟨by decide, by decide, ld1 5 rfl (v := uv st.c) rfl ?_⟩
       refine ⟨by decide, by decide, ld1 5 rfl (v := uv st.b) rfl ?_⟩
       refine ⟨by decide, by decide, ld1 5 rfl (v := uv st.c) rfl ?_⟩
       refine .to (ux (rndV st)) (by rw [QU, QU, zf, zf, qbj, zf, qbj]; exact qC _ _) ?_
       refine .to _ (qC _ _) ?_
       refine ⟨by decide, by decide, ld1 5 rfl (v := uv st.a) rfl ?_⟩
       refine ⟨by decide, by decide, ld1 5 rfl (v := uv st.b) rfl ?_⟩
       refine ⟨by decide, by decide, ld1 5 rfl (v := uv st.c) rfl ?_⟩
       refine ⟨by decide, by decide, ld1 5 rfl (v := uv st.d) rfl ?_⟩
       refine .to _ (qC _ _) ?_
       refine ⟨by decide, by decide, ld1 5 rfl (v := uv st.e) rfl ?_⟩
       refine ⟨by decide, by decide, ld1 5 rfl (v := uv st.f) rfl ?_⟩
       refine ⟨by decide, by decide, ld1 5 rfl (v := uv st.g) rfl ?_⟩
       refine bu (c := ((rnd st K V).l.map uv).toArray) (by kernel_rfl) ?_
       refine sN 5 rfl (qbU _ _) (qd2 _) ?_ (by kernel_rfl)
       refine .as ((t + 1 : Nat) : Int) (by omega) (by simp only [mn]; omega) (by simp only [mx]; omega) ?_
       refine ⟨t + 1, by omega, by omega, ?_⟩
       simp only [hst]
       exact ⟨⟨rfl, rfl, rfl, rfl, rfl, rfl, rfl, rfl, trivial⟩, .cons (.cons (.cons (.cons (.cons (.cons .nil))))), rfl⟩
     · obtain rfl : t = 64 := by omega
       generalize QC ktab ws s 64 = r at *
       refine lp qc (fun i : Nat => i ≤ 8) (fun i => ⟨[(2, ptr b2), (3, ptr b3), (5, .slice (some ⟨tb, 0, none⟩) 80 80), (7, .slice (some ⟨xb, 0, none⟩) pt.length cap), (8, .int .i64 (64 * k : Nat)), (9, ptr b9), (14, ptr b14), (20, .int .i64 i)], [cl b2 (List.replicate 32 (Value.int .u8 0)).toArray 39, cl b3 (((s.add r).l.map uv).take i ++ (s.l.map uv).drop i).toArray 128, cl tb (K64.map uw).toArray 131, cl xb (Lib.byteCells pt ++ jj).toArray 5, cl b9 (qm ws 0) 133, cl b14 (r.l.map uv).toArray 128], []⟩) (fun i => 8 - i) 0 (Nat.zero_le _)
        ⟨⟨rfl, rfl, rfl, rfl, rfl, rfl, rfl, rfl, trivial⟩, .cons (.cons (.cons (.cons (.cons (.cons .nil))))), rfl⟩ ?_
       intro i hi
       refine cd (fun h => ?_) (fun h => ?_)
       · have hlt : i < 8 := by omega
         refine drs [cl b2 (List.replicate 32 (Value.int .u8 0)).toArray 39, cl b3 (((s.add r).l.map uv).take i ++ (s.l.map uv).drop i).toArray 128, cl tb (K64.map uw).toArray 131, cl xb (Lib.byteCells pt ++ jj).toArray 5, cl b9 (qm ws 0) 133, cl b14 (r.l.map uv).toArray 128] [9] (.t 0 (.t 1 (.t 2 (.t 3 (.t 4 (.t 5 (.t 6 (.t 7 (.t 8 (.n 9 .nil)))))))))) qc qe (by kernel_rfl) (.cons (.cons (.cons (.cons (.cons (.cons .nil)))))) ?_
         refine ⟨by omega, by omega, ?_⟩
         refine ld1 1 rfl (v := uv (s.l.getD i 0)) (by rw [qi, qh, Nat.zero_add, Nat.mul_one, Int.toNat_natCast]; rw [List.getElem?_toArray, qaO _ _ _ (by simp [H8.l]; omega), ← List.getElem?_toArray]; exact zh s i hlt) ?_
         refine ⟨by omega, by omega, ?_⟩
         refine ld1 5 rfl (v := uv (r.l.getD i 0)) (by rw [qi, qh, Nat.zero_add, Nat.mul_one, Int.toNat_natCast]; exact zh r i hlt) ?_
         refine .to _ (qC _ _) ?_
         refine ⟨by omega, by omega, ?_⟩
         refine s1 1 rfl (by rw [qi, qh, Nat.zero_add, Nat.mul_one, Int.toNat_natCast]; simp [H8.l]; omega) ?_
         have hE : (((s.add r).l.map uv).take (i + 1) ++ (s.l.map uv).drop (i + 1)).toArray = (((s.add r).l.map uv).take i ++ (s.l.map uv).drop i).toArray.setIfInBounds (nad 0 (nmu (Int.toNat (i : Int)) 1)) (uv (s.l.getD i 0 + r.l.getD i 0)) := by
          rw [qi, qh, Nat.zero_add, Nat.mul_one, Int.toNat_natCast]; rw [List.setIfInBounds_toArray, ← qej s r i hlt, QJ _ _ _ (by simp [H8.l]) i (by simp [H8.l]; omega) (by rw [← List.getElem?_toArray]; exact zh _ i hlt)]
         refine .as ((i + 1 : Nat) : Int) (by omega) (by simp only [mn]; omega) (by simp only [mx]; omega) ?_
         refine ⟨i + 1, by omega, by omega, ?_⟩
         rw [hE]
         exact ⟨⟨rfl, rfl, rfl, rfl, rfl, rfl, rfl, rfl, trivial⟩, .cons (.cons (.cons (.cons (.cons (.cons .nil))))), rfl⟩
       · obtain rfl : i = 8 := by omega
         have hE : (((s.add r).l.map uv).take 8 ++ (s.l.map uv).drop 8).toArray = ((s.add r).l.map uv).toArray := rfl
         rw [hE, ← hpn]
         refine .as ((64 * (k + 1) : Nat) : Int) (by omega) (by simp only [mn]; omega) (by simp only [mx]; omega) ?_
         exact ⟨k + 1, by omega, by omega, ⟨rfl, rfl, rfl, rfl, rfl, trivial⟩, .cons (.cons (.cons (.cons .nil))), rfl⟩
 · obtain rfl : k = q := by omega
   generalize qA pt k = S at *
   intro b21
   have hol : (Lib.byteCells (zd S)).length = 32 := by rw [Lib.byteCells_length, qdN]
   refine lp qc (fun i : Nat => i ≤ 32) (fun i => ⟨[(2, ptr b2), (3, ptr b3), (21, ptr b21), (22, .int .i64 i)], [cl b2 (List.replicate 32 (Value.int .u8 0)).toArray 39, cl b3 (S.l.map uv).toArray 128, cl b21 ((Lib.byteCells (zd S)).take i ++ (List.replicate 32 (Value.int .u8 0)).drop i).toArray 39], []⟩) (fun i => 32 - i) 0 (Nat.zero_le _)
    ⟨⟨rfl, rfl, rfl, rfl, trivial⟩, .cons (.cons (.drop (.drop (.cons .nil)))), rfl⟩ ?_
   intro i hi
   refine cd (fun h => ?_) (fun h => ?_)
   · have hlt : i < 32 := by omega
     have hbyte : (Lib.byteCells (zd S))[i]? = some (.int .u8 (UInt8.ofNat ((S.l.getD (i / 4) 0).toNat / 2 ^ (24 - 8 * (i % 4)) % 256)).toNat) := by
      unfold Lib.byteCells; rw [List.getElem?_map, outB_at S i hlt]; rfl
     refine ⟨by omega, by simp only [mx]; omega, by decide, ?_⟩
     refine ⟨by omega, by omega, ?_⟩
     refine ld1 1 rfl (v := uv (S.l.getD (i / 4) 0)) (by rw [qi, qh, Nat.zero_add, Nat.mul_one, show Int.toNat ((i : Int) / 4) = i / 4 by omega]; exact zh S _ (by omega)) ?_
     refine ⟨by omega, by simp only [mx]; omega, by decide, ?_⟩
     refine .as ((3 - i % 4 : Nat) : Int) (by omega) (by simp only [mn]; omega) (by simp only [mx]; omega) ?_
     refine .as ((24 - 8 * (i % 4) : Nat) : Int) (by omega) (by simp only [mn]; omega) (by simp only [mx]; omega) ?_
     refine .same (by simp only [mn]; omega) (by simp only [mx]; omega) ?_
     refine ⟨by omega, ?_⟩
     refine .to ((UInt8.ofNat ((S.l.getD (i / 4) 0).toNat / 2 ^ (24 - 8 * (i % 4)) % 256)).toNat : Int) (by rw [Zs _ (24 - 8 * (i % 4)) (by omega) _ rfl]; exact Z5 _ _) ?_
     refine ⟨by omega, by omega, ?_⟩
     refine s1 2 rfl (by rw [qi, qh, Nat.zero_add, Nat.mul_one, Int.toNat_natCast]; simp [hol]; omega) ?_
     have hE : ((Lib.byteCells (zd S)).take (i + 1) ++ (List.replicate 32 (Value.int .u8 0)).drop (i + 1)).toArray = ((Lib.byteCells (zd S)).take i ++ (List.replicate 32 (Value.int .u8 0)).drop i).toArray.setIfInBounds (nad 0 (nmu (Int.toNat (i : Int)) 1)) (.int .u8 (UInt8.ofNat ((S.l.getD (i / 4) 0).toNat / 2 ^ (24 - 8 * (i % 4)) % 256)).toNat) := by
      rw [qi, qh, Nat.zero_add, Nat.mul_one, Int.toNat_natCast]; rw [List.setIfInBounds_toArray, QJ _ _ _ (by rw [hol]; rfl) i (by omega) hbyte]
     refine .as ((i + 1 : Nat) : Int) (by omega) (by simp only [mn]; omega) (by simp only [mx]; omega) ?_
     refine ⟨i + 1, by omega, by omega, ?_⟩
     rw [hE]
     exact ⟨⟨rfl, rfl, rfl, rfl, trivial⟩, .cons (.cons (.cons .nil)), rfl⟩
   · obtain rfl : i = 32 := by omega
     have hE : ((Lib.byteCells (zd S)).take 32 ++ (List.replicate 32 (Value.int .u8 0)).drop 32).toArray = (Lib.byteCells (zd S)).toArray := by
      rw [List.take_of_length_le (by omega)]; simp
     rw [hE]
     refine ldN 2 rfl (by simp [hol]) ?_
     refine sN 0 rfl (by simp [hol]) (Zj _) ?_ (by kernel_rfl)
     refine ldN 0 rfl (by simp [hol]) ?_
     exact rt rfl
end
end Go.Proofs.YtbgefoamhdgnaaaGreatDoor.S
section
namespace Go.Proofs.YtbgefoamhdgnaaaGreatDoor
open Go.RowKit Go.Lib
theorem add64 (x y c : Int) (hx : 0 ≤ x) (hy : 0 ≤ y) (hc0 : 0 ≤ c) (hc : c ≤ 1) (w : World) : (callFunc 248 #[.int .u64 x, .int .u64 y, .int .u64 c]).run Tryz.prog w =
 .ok (.value (.tuple #[.int .u64 ((x + y + c) % 18446744073709551616), .int .u64 ((x + y + c) / 18446744073709551616)])) w := by
 rw [run_callFunc_extern Tryz.func248 (by kernel_rfl) (by kernel_rfl) (by kernel_rfl) (e := add64Entry) (by kernel_rfl), run_add64 x y c hx hy hc0 hc]
 rfl
def sub64Ent : Array Value → Sem Value := fun args => do
 let (x, y, b) ← Extern.MathBitsCarry.three "Sub64" args
 pure (Extern.MathBitsCarry.pair ((x + Extern.MathBitsCarry.m64 - y - b) % Extern.MathBitsCarry.m64) (if x < y + b then 1 else 0))
theorem run_sub64n (x y b : Nat) (hb : b ≤ 1) (w : World) :
 (sub64Ent #[.int .u64 x, .int .u64 y, .int .u64 b]).run Tryz.prog w =
  .ok (.tuple #[.int .u64 (((x + 18446744073709551616 - y - b) % 18446744073709551616 : Nat) : Int), .int .u64 ((if x < y + b then 1 else 0 : Nat) : Int)]) w := by
 have : b = 0 ∨ b = 1 := by omega
 rcases this with rfl | rfl <;> rfl
theorem qdd (x y : Int) (hx : 0 ≤ x) (hy : 0 ≤ y) (w : World) : (callFunc 248 #[.int .u64 x, .int .u64 y, .int .u64 0]).run Tryz.prog w =
 .ok (.value (.tuple #[.int .u64 ((x + y) % 18446744073709551616), .int .u64 ((x + y) / 18446744073709551616)])) w := by
 simpa using add64 x y 0 hx hy (Int.le_refl 0) (by decide) w
namespace M64
theorem maskN (a : Nat) (ha : a < 18446744073709551616) : bits .and .u64 (a : Int) 4294967295 = ((a % 4294967296 : Nat) : Int) := by
 have h := bits_and_u64_nat a 4294967295 ha (by omega)
 have e : a &&& 4294967295 = a % 4294967296 := Nat.and_two_pow_sub_one_eq_mod a 32
 rw [e] at h
 exact h
theorem divN (a : Nat) : (a : Int) / 4294967296 = ((a / 4294967296 : Nat) : Int) := by omega
theorem mulN (a b : Nat) : (a : Int) * (b : Int) = ((a * b : Nat) : Int) := (Int.natCast_mul a b).symm
theorem addN (a b : Nat) : (a : Int) + (b : Int) = ((a + b : Nat) : Int) := (Int.natCast_add a b).symm
theorem wrapN (a : Nat) (ha : a < 18446744073709551616) : IntKind.u64.wrap (a : Int) = (a : Int) := by rw [IntKind.wrap_u64]; omega
theorem wrapM (a : Nat) : IntKind.u64.wrap (a : Int) = ((a % 18446744073709551616 : Nat) : Int) := by rw [IntKind.wrap_u64]; omega
end M64
theorem mul64N (x y : Nat) (hx : x < 18446744073709551616) (hy : y < 18446744073709551616) (w : World) :
 Calls Tryz.prog 247 #[.int .u64 x, .int .u64 y] w fun e w' => e = .returned (.tuple #[.int .u64 ((x * y / 18446744073709551616 : Nat) : Int), .int .u64 ((x * y % 18446744073709551616 : Nat) : Int)]) ∧ w = w' := by
 obtain ⟨bd, bt, bw, hhi⟩ := Lib.mul64_hi x y hx hy
 have ba := Lib.half_mul_le (a := x / 4294967296) (b := y / 4294967296) (by omega) (by omega)
 have bb := Lib.half_mul_le (a := x / 4294967296) (b := y % 4294967296) (by omega) (by omega)
 have bc := Lib.half_mul_le (a := x % 4294967296) (b := y / 4294967296) (by omega) (by omega)
 have ba' : x / 4294967296 * (y / 4294967296) < 18446744073709551616 := by omega
 have bb' : x / 4294967296 * (y % 4294967296) < 18446744073709551616 := by omega
 have bc' : x % 4294967296 * (y / 4294967296) < 18446744073709551616 := by omega
 have bh1 : x / 4294967296 * (y / 4294967296) + (x / 4294967296 * (y % 4294967296) + x % 4294967296 * (y % 4294967296) / 4294967296) / 4294967296 < 18446744073709551616 := by omega
 have bh : x / 4294967296 * (y / 4294967296) + (x / 4294967296 * (y % 4294967296) + x % 4294967296 * (y % 4294967296) / 4294967296) / 4294967296 + ((x / 4294967296 * (y % 4294967296) + x % 4294967296 * (y % 4294967296) / 4294967296) % 4294967296 + x % 4294967296 * (y / 4294967296)) / 4294967296 < 18446744073709551616 := by omega
 go_enter Tryz.func247, Tryz.ntmps247
 go_wp2
 simp only [M64.maskN x hx, M64.maskN y hy, M64.divN, M64.mulN, M64.addN, M64.wrapN _ bd, M64.wrapN _ bb', M64.wrapN _ bt, M64.maskN _ bt, M64.wrapN _ bc', M64.wrapN _ bw, M64.wrapN _ ba', M64.wrapN _ bh1, M64.wrapN _ bh, M64.wrapM (x * y)]
 rw [hhi]
 go_ret2
 exact ⟨rfl, rfl⟩
theorem mul64 (x y : Int) (hx0 : 0 ≤ x) (hx : x < 18446744073709551616) (hy0 : 0 ≤ y) (hy : y < 18446744073709551616) (w : World) :
 Calls Tryz.prog 247 #[.int .u64 x, .int .u64 y] w fun e w' => e = .returned (.tuple #[.int .u64 (x * y / 18446744073709551616), .int .u64 (x * y % 18446744073709551616)]) ∧ w = w' := by
 obtain ⟨x, rfl⟩ := Int.eq_ofNat_of_zero_le hx0
 obtain ⟨y, rfl⟩ := Int.eq_ofNat_of_zero_le hy0
 exact mul64N x y (by omega) (by omega) w
end Go.Proofs.YtbgefoamhdgnaaaGreatDoor
end
