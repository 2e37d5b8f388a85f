/- Symbolic steps: a loop over a function whose rounds turn several blocks and keep a fact. -/
import Derived.Test.YtpegkoklmhccjaaDoorSxN
namespace Go.Sx
open Go Go.RowKit
set_option linter.unusedVariables false
/-- a fact that is known -/
def factE (P : Prop) : Ent := rs ⟨fun _ => False, fun _ => False, fun _ => P, fun _ _ _ h => h, fun _ _ k h => h.elim (fun h => h.elim) fun h => h.elim⟩
theorem factW (P : Prop) (k : Nat) : ¬ (factE P).W k := fun h => ((rsW _ k).1 h).elim
theorem factA (P : Prop) (k : Nat) : ¬ (factE P).A k := fun h => ((rsA _ k).1 h).elim (fun h => h.elim) fun h => h.elim
theorem St.fact {M : Bks} {B w : World} {L : List Ent} (h : St M B w L) {P : Prop} (hP : P) : St M B w (factE P :: L) := by
  refine ⟨h.os, h.tape, h.output, h.size, h.old, fun e he => ?_, fun e he k hk => ?_, .cons (fun y hy k => ⟨fun h1 => absurd h1 (factW P k), fun _ h2 => absurd h2 (factA P k)⟩) h.apart⟩
  · rcases List.mem_cons.1 he with rfl | he
    · exact (rsOk _ _).2 hP
    · exact h.ok e he
  · rcases List.mem_cons.1 he with rfl | he
    · exact absurd hk (factW P k)
    · exact h.ownW e he k hk
theorem St.factP {M : Bks} {B w : World} {L : List Ent} (h : St M B w L) {P : Prop} (hm : factE P ∈ L) : P := (rsOk _ w).1 (h.ok _ hm)
theorem CodeP.no {C : Cx} {c : Code} {K : Exit → Sy → Prop} {s : Sy} (h : ∀ w, St C.M C.B w s.L → False) : CodeP C c K s := ⟨fun n a w hf hs => (h w hs).elim⟩
/-- how a round's body is left; what then is a fact -/
def roundI {I α β : Type} (Inv : I → α → Prop) (E : I → α → List Ent) (S : β → List Ent × Code) (l : Nat) (busy : Obj) (B : World) (es : List Ent) (j : I) : Exit → Sy → Prop := fun x s => match x with
  | .normal => ∃ y, Inv j y ∧ Sub (E j y ++ [⟨l, some busy, false, none⟩]) s.L ∧ ∀ e ∈ E j y, ∀ b, e.A b → (∃ f ∈ es, f.A b) ∨ B.heap.size ≤ b
  | .ret => ∃ y, (S y).2 = .ret ∧ Sub ((S y).1 ++ [⟨l, some busy, false, none⟩]) s.L ∧ ∀ e ∈ (S y).1, ∀ b, e.A b → (∃ f ∈ es, f.A b) ∨ B.heap.size ≤ b
  | .exit id => ∃ y, (S y).2 = .exit id ∧ Sub ((S y).1 ++ [⟨l, some busy, false, none⟩]) s.L ∧ ∀ e ∈ (S y).1, ∀ b, e.A b → (∃ f ∈ es, f.A b) ∨ B.heap.size ≤ b
  | _ => False
/-- with the fact: as a thing of its own -/
theorem roundI_M {C : Cx} {I α β : Type} {Inv : I → α → Prop} {E : I → α → List Ent} {S : β → List Ent × Code} {l : Nat} {busy : Obj} {B : World} {es : List Ent} {j : I} (x : Exit) (a : Act) (w : World) (h : Holds C (roundI Inv E S l busy B es j x) a w) :
    Holds C (roundM (fun i y => factE (Inv i y) :: E i y) S l busy B es j x) a w := by
  obtain ⟨s, hf, hs, hr⟩ := h
  cases x with
  | normal =>
    obtain ⟨y, h0, h1, h2⟩ := hr
    refine ⟨⟨s.σ, factE (Inv j y) :: s.L, s.D⟩, ⟨hf.size, hf.defers, hf.slot⟩, hs.fact h0, y, .cons h1, fun e he b hb => ?_⟩
    rcases List.mem_cons.1 he with rfl | he
    · exact absurd hb (factA _ b)
    · exact h2 e he b hb
  | ret => exact ⟨s, hf, hs, hr⟩
  | exit id => exact ⟨s, hf, hs, hr⟩
  | _ => exact hr.elim
theorem sub_mid (L : List Ent) (e : Ent) (l : List Ent) : Sub (L ++ l) (L ++ e :: l) := by
  induction L with
  | nil => exact .drop (Sub.refl l)
  | cons x L ih => exact .cons ih
/-- the blocks of the fact are none -/
theorem roundK_es {I α β : Type} {E : I → α → Ent} {S : β → Ent × Code} {l : Nat} {busy : Obj} {B : World} {es : List Ent} {P : Prop} {j : I} (x : Exit) (s : Sy) (h : roundK E S l busy B (rs (mres es)) j x s) : roundK E S l busy B (rs (mres (factE P :: es))) j x s := by
  have hA : ∀ b, (rs (mres es)).A b → (rs (mres (factE P :: es))).A b := fun b hb => by
    obtain ⟨e, he, hb⟩ := (mresA _ _).1 hb
    exact (mresA _ _).2 ⟨e, List.mem_cons_of_mem _ he, hb⟩
  cases x with
  | normal => obtain ⟨y, h1, h2⟩ := h; exact ⟨y, h1, fun b hb => (h2 b hb).imp (hA b) id⟩
  | ret => obtain ⟨y, h0, h1, h2⟩ := h; exact ⟨y, h0, h1, fun b hb => (h2 b hb).imp (hA b) id⟩
  | exit _ => obtain ⟨y, h0, h1, h2⟩ := h; exact ⟨y, h0, h1, fun b hb => (h2 b hb).imp (hA b) fun h => h⟩
  | _ => exact h.elim
/-- a loop over a function, in a function of its own: the last entries are those that turn; a fact is kept -/
theorem rfi {C : Cx} (hT : TabOk C.P C.T) (hF : C.F = none) {g : Operand} {ps : Array Tmp} {assign body : Code} {K : Exit → Sy → Prop} {σ : Fr} {L0 L : List Ent} {D : List Deferred} {gf : FuncId} {lb : Array Value} {I α β : Type} {i0 : I} {nx : I → List Value → I → Prop} {fin : I → Prop} {H : Res}
    (hcl : callable C.T gf = true) (hg : ev σ g (· = .func (.func gf) #[] lb)) (hit : Itr C.P gf lb.toList i0 nx fin H) (Inv : I → α → Prop) (E : I → α → List Ent) (S : β → List Ent × Code) (hS : ∀ y, (S y).2 = .ret ∨ ∃ id, (S y).2 = .exit id) (x0 : α) (hi0 : Inv i0 x0) (hL : (L0 ++ E i0 x0).Perm L)
    (hH : ∀ w, St C.M C.B w (L0 ++ E i0 x0) → H.p w ∧ ∀ b, H.A b → ∀ e ∈ E i0 x0, ¬ e.W b) (hps : ∀ i args j, nx i args j → args.length = ps.size)
    (round : ∀ l i args j x w ready busy, nx i args j → Inv i x → cx ⟨C.P, C.T, C.N, [fun b => b = l ∨ ∃ e ∈ E i x, e.W b], w, some l⟩ assign (beginK ⟨C.P, C.T, C.N, [fun b => b = l ∨ ∃ e ∈ E i x, e.W b], w, some l⟩ body (roundI Inv E S l busy w (E i x) j) l (L0.length + (E i x).length) ready busy)
      ⟨putPs C.N ps.toList args σ, L0.map Ent.rd ++ E i x ++ [⟨l, some ready, false, none⟩], []⟩)
    (done : ∀ i y b0, fin i → Inv i y → K .normal ⟨σ, L0 ++ E i y ++ [dfe b0], { target := .collected b0, args := #[] } :: D⟩)
    (stop : ∀ y b0, K (exitOf (S y).2) ⟨σ, L0 ++ (S y).1 ++ [dfe b0], { target := .collected b0, args := #[] } :: D⟩) : CodeP C (.rangeFunc g ps assign body) K ⟨σ, L, D⟩ := by
  refine CodeP.from (L' := L0 ++ [rs (mres (factE (Inv i0 x0) :: E i0 x0))]) (fun w hs => ?_) ?_
  · have h1 : St C.M C.B w (L0 ++ (factE (Inv i0 x0) :: E i0 x0)) := ((hs.perm hL).fact hi0).perm List.perm_middle
    simpa using St.pack (Y := []) (by simpa using h1)
  have hset : ∀ e e' : Ent, (L0 ++ [e]).set L0.length e' = L0 ++ [e'] := fun e e' => by simp
  refine CodeP.mono (K := fun x s => (∀ w, St C.M C.B w s.L → False) ∨ ∃ L', (∀ w, St C.M C.B w s.L → St C.M C.B w L') ∧ K x ⟨s.σ, L', s.D⟩) (fun x a w ⟨s, h1, h2, h3⟩ => ?_) ?_
  · rcases h3 with h3 | ⟨L', h3, h4⟩
    · exact (h3 w h2).elim
    · exact ⟨⟨s.σ, L', s.D⟩, ⟨h1.size, h1.defers, h1.slot⟩, h3 w h2, h4⟩
  refine rf' hT hF hcl hg hit L0.length (fun i x => rs (mres (factE (Inv i x) :: E i x))) (fun y => (rs (mres (S y).1), (S y).2)) hS x0 (by simp) (fun w hs => ?_) hps (fun l i args j x w ready busy hn => ?_) (fun i y b0 hf => ?_) (fun y b0 => ?_)
  · have h1 := hH w ((St.unpack (Y := []) (by simpa using hs)).sub (by simpa using sub_mid L0 (factE (Inv i0 x0)) (E i0 x0)))
    exact ⟨h1.1, fun b hb hw => by
      obtain ⟨e, he, hw⟩ := (mresW _ _).1 hw
      rcases List.mem_cons.1 he with rfl | he
      · exact factW _ b hw
      · exact h1.2 b hb e he hw⟩
  · by_cases hI : Inv i x
    · have hM : (fun b => b = l ∨ (rs (mres (factE (Inv i x) :: E i x))).W b) = fun b => b = l ∨ ∃ e ∈ E i x, e.W b := by
        funext b; rw [mresW]
        refine propext ⟨fun h => h.imp id fun ⟨e, he, hw⟩ => ?_, fun h => h.imp id fun ⟨e, he, hw⟩ => ⟨e, List.mem_cons_of_mem _ he, hw⟩⟩
        rcases List.mem_cons.1 he with rfl | he
        · exact absurd hw (factW _ b)
        · exact ⟨e, he, hw⟩
      rw [hM]
      have h1 := cx_ok (C := ⟨C.P, C.T, C.N, [fun b => b = l ∨ ∃ e ∈ E i x, e.W b], w, some l⟩) hT assign _ _ (round l i args j x w ready busy hn hI)
      refine CodeP.from (L' := L0.map Ent.rd ++ E i x ++ [⟨l, some ready, false, none⟩]) (fun w' hs => ?_) (h1.mono fun e a w' h => ?_)
      · have e1 : (List.map Ent.rd (L0 ++ [rs (mres (factE (Inv i0 x0) :: E i0 x0))])).set L0.length (rs (mres (factE (Inv i x) :: E i x))) ++ [⟨l, some ready, false, none⟩] = L0.map Ent.rd ++ [rs (mres (factE (Inv i x) :: E i x))] ++ [⟨l, some ready, false, none⟩] := by
          rw [List.map_append]; simp [List.set_append_right]
        rw [e1] at hs
        have h2 := hs.unpack
        rw [List.append_assoc] at h2 ⊢
        exact h2.sub (sub_mid _ _ _)
      · obtain ⟨s, hf, hs, h2⟩ := h
        cases e with
        | normal =>
          obtain ⟨h3, h4⟩ := h2
          have h5 := (cx_ok (C := ⟨C.P, C.T, C.N, [fun b => b = l ∨ ∃ e ∈ E i x, e.W b], w, some l⟩) hT body _ _ h4).mono fun e a w' h => round_pack (C := ⟨C.P, C.T, C.N, [fun b => b = l ∨ ∃ e ∈ E i x, e.W b], w, some l⟩) e a w' (roundI_M e a w' h)
          have h5 := h5.imp fun e s h => roundK_es (l := l) (busy := busy) (P := Inv i x) e s h
          obtain ⟨hlt, hget⟩ := List.getElem?_eq_some_iff.1 h3
          have hsp : s.L = s.L.take (L0.length + (E i x).length) ++ ⟨l, some ready, false, none⟩ :: s.L.drop (L0.length + (E i x).length + 1) := by
            rw [← hget]; simp
          have hset2 : s.L.set (L0.length + (E i x).length) ⟨l, some busy, false, none⟩ = s.L.take (L0.length + (E i x).length) ++ ⟨l, some busy, false, none⟩ :: s.L.drop (L0.length + (E i x).length + 1) := List.set_eq_take_append_cons_drop.trans (if_pos hlt)
          rw [hset2] at h5
          generalize s.L.take (L0.length + (E i x).length) = A at *
          generalize s.L.drop (L0.length + (E i x).length + 1) = Z at *
          refine ⟨⟨s.σ, List.replicate (L0.length + 1) dead ++ ⟨l, some ready, false, none⟩ :: (A ++ Z), s.D⟩, ⟨hf.size, hf.defers, hf.slot⟩, ?_, ?_, ?_⟩
          · rw [hsp] at hs
            exact (hs.perm List.perm_middle.symm).pad _
          · simp
          · refine CodeP.from (L' := A ++ ⟨l, some busy, false, none⟩ :: Z) (fun w2 hs2 => ?_) h5
            have e2 : (List.replicate (L0.length + 1) dead ++ (⟨l, some ready, false, none⟩ : Ent) :: (A ++ Z)).set (L0 ++ [rs (mres (factE (Inv i0 x0) :: E i0 x0))]).length ⟨l, some busy, false, none⟩ = List.replicate (L0.length + 1) dead ++ (⟨l, some busy, false, none⟩ : Ent) :: (A ++ Z) := by
              rw [List.set_append_right _ _ (by simp)]; simp
            rw [e2] at hs2
            exact (hs2.sub (Sub.padL _ _)).perm List.perm_middle
        | _ => exact h2.elim
    · refine CodeP.no fun w' hs => hI ?_
      have e1 : (List.map Ent.rd (L0 ++ [rs (mres (factE (Inv i0 x0) :: E i0 x0))])).set L0.length (rs (mres (factE (Inv i x) :: E i x))) ++ [⟨l, some ready, false, none⟩] = L0.map Ent.rd ++ [rs (mres (factE (Inv i x) :: E i x))] ++ [⟨l, some ready, false, none⟩] := by
        rw [List.map_append]; simp [List.set_append_right]
      rw [e1] at hs
      exact hs.unpack.factP (by simp)
  · by_cases hI : Inv i y
    · refine .inr ⟨L0 ++ E i y ++ [dfe b0], fun w hs => ?_, done i y b0 hf hI⟩
      rw [hset] at hs
      have h2 := hs.unpack
      rw [List.append_assoc] at h2 ⊢
      exact h2.sub (sub_mid _ _ _)
    · refine .inl fun w hs => hI ?_
      rw [hset] at hs
      exact hs.unpack.factP (by simp)
  · refine .inr ⟨L0 ++ (S y).1 ++ [dfe b0], fun w hs => ?_, stop y b0⟩
    rw [hset] at hs
    exact hs.unpack
end Go.Sx
