/- A loop over a function whose rounds turn several blocks. -/
import Derived.Test.YtpegkoklmhccjaaDoorSxL
import Derived.Test.YtpegkoklmhccjaaDoorSxH
namespace Go.Sx
open Go Go.RowKit
set_option linter.unusedVariables false

/-- several entries as one thing that is held -/
def mres (es : List Ent) : Res where
  w k := ∃ e ∈ es, e.W k
  r k := ∃ e ∈ es, e.A k
  p u := (∀ e ∈ es, e.Ok u) ∧ es.Pairwise Apart
  st u v h := fun ⟨h1, h2⟩ => ⟨fun e he => (h1 e he).same fun k hk => h k (.inr ⟨e, he, hk⟩), h2⟩
  bd u := fun ⟨h1, h2⟩ k hk => by
    rcases hk with ⟨e, he, hk⟩ | ⟨e, he, hk⟩
    · exact (h1 e he).lt hk.a
    · exact (h1 e he).lt hk
theorem mresW (es : List Ent) (k : Nat) : (rs (mres es)).W k ↔ ∃ e ∈ es, e.W k := by simp [mres]
theorem mresA (es : List Ent) (k : Nat) : (rs (mres es)).A k ↔ ∃ e ∈ es, e.A k := by
  simp only [rsA, mres]
  exact ⟨fun h => h.elim (fun ⟨e, he, h⟩ => ⟨e, he, h.a⟩) id, .inr⟩
theorem mres_apart (x : Ent) (es : List Ent) : Apart x (rs (mres es)) ↔ ∀ e ∈ es, Apart x e := by
  constructor
  · exact fun h e he k => ⟨fun h1 h2 => (h k).1 h1 ((mresA es k).2 ⟨e, he, h2⟩), fun h1 h2 => (h k).2 ((mresW es k).2 ⟨e, he, h1⟩) h2⟩
  · exact fun h k => ⟨fun h1 h2 => by obtain ⟨e, he, h2⟩ := (mresA es k).1 h2; exact (h e he k).1 h1 h2, fun h1 h2 => by obtain ⟨e, he, h1⟩ := (mresW es k).1 h1; exact (h e he k).2 h1 h2⟩
section
variable {M : Bks} {B w : World} {X Y es : List Ent}
theorem St.pack (h : St M B w (X ++ es ++ Y)) : St M B w (X ++ [rs (mres es)] ++ Y) := by
  have hp := h.apart
  rw [List.append_assoc, List.pairwise_append, List.pairwise_append] at hp
  refine ⟨h.os, h.tape, h.output, h.size, h.old, ?_, ?_, ?_⟩
  · intro e he
    simp only [List.mem_append, List.mem_singleton] at he
    rcases he with (he | rfl) | he
    · exact h.ok e (by simp [he])
    · exact (rsOk _ _).2 ⟨fun e he => h.ok e (by simp [he]), hp.2.1.1⟩
    · exact h.ok e (by simp [he])
  · intro e he k hk
    simp only [List.mem_append, List.mem_singleton] at he
    rcases he with (he | rfl) | he
    · exact h.ownW e (by simp [he]) k hk
    · obtain ⟨e, he, hk⟩ := (mresW es k).1 hk; exact h.ownW e (by simp [he]) k hk
    · exact h.ownW e (by simp [he]) k hk
  · rw [List.append_assoc, List.pairwise_append, List.pairwise_append]
    refine ⟨hp.1, ⟨by simp, hp.2.1.2.1, ?_⟩, ?_⟩
    · intro a ha b hb
      obtain rfl : a = _ := by simpa using ha
      exact ((mres_apart b es).2 fun e he => (hp.2.1.2.2 e he b hb).symm).symm
    · intro a ha b hb
      simp only [List.mem_append, List.mem_singleton] at hb
      rcases hb with rfl | hb
      · exact (mres_apart a es).2 fun e he => hp.2.2 a ha e (by simp [he])
      · exact hp.2.2 a ha b (by simp [hb])
theorem St.unpack (h : St M B w (X ++ [rs (mres es)] ++ Y)) : St M B w (X ++ es ++ Y) := by
  have hp := h.apart
  rw [List.append_assoc, List.pairwise_append, List.pairwise_append] at hp
  have hm := (rsOk _ _).1 (h.ok (rs (mres es)) (by simp))
  refine ⟨h.os, h.tape, h.output, h.size, h.old, ?_, ?_, ?_⟩
  · intro e he
    simp only [List.mem_append] at he
    rcases he with (he | he) | he
    · exact h.ok e (by simp [he])
    · exact hm.1 e he
    · exact h.ok e (by simp [he])
  · intro e he k hk
    simp only [List.mem_append] at he
    rcases he with (he | he) | he
    · exact h.ownW e (by simp [he]) k hk
    · exact h.ownW (rs (mres es)) (by simp) k ((mresW es k).2 ⟨e, he, hk⟩)
    · exact h.ownW e (by simp [he]) k hk
  · rw [List.append_assoc, List.pairwise_append, List.pairwise_append]
    refine ⟨hp.1, ⟨hm.2, hp.2.1.2.1, ?_⟩, ?_⟩
    · intro a ha b hb
      exact ((mres_apart b es).1 (hp.2.1.2.2 _ (by simp) b hb).symm a ha).symm
    · intro a ha b hb
      simp only [List.mem_append] at hb
      rcases hb with hb | hb
      · exact (mres_apart a es).1 (hp.2.2 a ha _ (by simp)) b hb
      · exact hp.2.2 a ha b (by simp [hb])
theorem St.perm {L L' : List Ent} (h : St M B w L) (hp : L'.Perm L) : St M B w L' :=
  ⟨h.os, h.tape, h.output, h.size, h.old, fun e he => h.ok e (hp.mem_iff.1 he), fun e he => h.ownW e (hp.mem_iff.1 he), (hp.pairwise_iff (fun {a b} h => Apart.symm h)).2 h.apart⟩
theorem St.pad {L : List Ent} (h : St M B w L) (n : Nat) : St M B w (List.replicate n dead ++ L) := by
  induction n with
  | zero => exact h
  | succ n ih => exact ih.deads.perm (by rw [List.replicate_succ, List.cons_append]; exact (List.perm_append_singleton _ _).symm)
theorem Sub.padL (n : Nat) (L : List Ent) : Sub L (List.replicate n Sx.dead ++ L) := by
  induction n with
  | zero => exact Sub.refl L
  | succ n ih => exact .drop ih
end
/-- the known things are named otherwise -/
theorem CodeP.from {C : Cx} {c : Code} {K : Exit → Sy → Prop} {σ : Fr} {L L' : List Ent} {D : List Deferred} (h : ∀ w, St C.M C.B w L → St C.M C.B w L') (hc : CodeP C c K ⟨σ, L', D⟩) : CodeP C c K ⟨σ, L, D⟩ := ⟨fun n a w hf hs => hc.go n a w ⟨hf.size, hf.defers, hf.slot⟩ (h w hs)⟩
theorem LoopP.from {C : Cx} {c : Code} {K : Exit → Sy → Prop} {σ : Fr} {L L' : List Ent} {D : List Deferred} (h : ∀ w, St C.M C.B w L → St C.M C.B w L') (hc : LoopP C c K ⟨σ, L', D⟩) : LoopP C c K ⟨σ, L, D⟩ := ⟨fun n a w hf hs => hc.go n a w ⟨hf.size, hf.defers, hf.slot⟩ (h w hs)⟩
/-- how a round's body is left -/
def roundM {I α β : Type} (E : I → α → List Ent) (S : β → List Ent × Code) (l : Nat) (busy : Obj) (B : World) (es : List Ent) (j : I) : Exit → Sy → Prop := fun x s => match x with
  | .normal => ∃ y, Sub (E j y ++ [⟨l, some busy, false, none⟩]) s.L ∧ ∀ e ∈ E j y, ∀ b, e.A b → (∃ f ∈ es, f.A b) ∨ B.heap.size ≤ b
  | .ret => ∃ y, (S y).2 = .ret ∧ Sub ((S y).1 ++ [⟨l, some busy, false, none⟩]) s.L ∧ ∀ e ∈ (S y).1, ∀ b, e.A b → (∃ f ∈ es, f.A b) ∨ B.heap.size ≤ b
  | .exit id => ∃ y, (S y).2 = .exit id ∧ Sub ((S y).1 ++ [⟨l, some busy, false, none⟩]) s.L ∧ ∀ e ∈ (S y).1, ∀ b, e.A b → (∃ f ∈ es, f.A b) ∨ B.heap.size ≤ b
  | _ => False
theorem hold_pack {C : Cx} {a : Act} {w : World} {s : Sy} {es : List Ent} {e : Ent} {k : Exit → Sy → Prop} {x : Exit} (hf : Fits C.N s a) (hs : St C.M C.B w s.L) (hb : Sub (es ++ [e]) s.L) (h : ∀ s', s'.L = [rs (mres es), e] → k x s') : Holds C (k x) a w :=
  ⟨⟨s.σ, [rs (mres es), e], s.D⟩, ⟨hf.size, hf.defers, hf.slot⟩, (show St C.M C.B w ([] ++ es ++ [e]) from hs.sub hb).pack, h _ rfl⟩
theorem round_pack {C : Cx} {I α β : Type} {E : I → α → List Ent} {S : β → List Ent × Code} {l : Nat} {busy : Obj} {es : List Ent} {j : I} (x : Exit) (a : Act) (w : World) (h : Holds C (roundM E S l busy C.B es j x) a w) : Holds C (roundK (fun i y => rs (mres (E i y))) (fun y => (rs (mres (S y).1), (S y).2)) l busy C.B (rs (mres es)) j x) a w := by
  obtain ⟨s, hf, hs, hr⟩ := h
  have hA : ∀ e1 : List Ent, (∀ e ∈ e1, ∀ b, e.A b → (∃ f ∈ es, f.A b) ∨ C.B.heap.size ≤ b) → ∀ b, (rs (mres e1)).A b → (rs (mres es)).A b ∨ C.B.heap.size ≤ b := by
    intro e1 h1 b hb
    obtain ⟨e, he, hb⟩ := (mresA _ _).1 hb
    exact (h1 e he b hb).imp (mresA _ _).2 id
  cases x with
  | normal => obtain ⟨y, h1, h2⟩ := hr; exact hold_pack (k := roundK (fun i y => rs (mres (E i y))) (fun y => (rs (mres (S y).1), (S y).2)) l busy C.B (rs (mres es)) j) hf hs h1 fun s' e => ⟨y, by rw [e]; exact .cons (.cons .nil), hA _ h2⟩
  | ret => obtain ⟨y, h0, h1, h2⟩ := hr; exact hold_pack (k := roundK (fun i y => rs (mres (E i y))) (fun y => (rs (mres (S y).1), (S y).2)) l busy C.B (rs (mres es)) j) hf hs h1 fun s' e => ⟨y, h0, by rw [e]; exact .cons (.cons .nil), hA _ h2⟩
  | exit id => obtain ⟨y, h0, h1, h2⟩ := hr; exact hold_pack (k := roundK (fun i y => rs (mres (E i y))) (fun y => (rs (mres (S y).1), (S y).2)) l busy C.B (rs (mres es)) j) hf hs h1 fun s' e => ⟨y, h0, by rw [e]; exact .cons (.cons .nil), hA _ h2⟩
  | _ => exact hr.elim
/-- a loop over a function, in a function of its own: the last entries are those that turn -/
theorem rfm {C : Cx} (hT : TabOk C.P C.T) (hF : C.F = none) {g : Operand} {ps : Array Tmp} {assign body : Code} {K : Exit → Sy → Prop} {σ : Fr} {L0 L : List Ent} {D : List Deferred} {gf : FuncId} {lb : Array Value} {I α β : Type} {i0 : I} {nx : I → List Value → I → Prop} {fin : I → Prop} {H : Res}
    (hcl : callable C.T gf = true) (hg : ev σ g (· = .func (.func gf) #[] lb)) (hit : Itr C.P gf lb.toList i0 nx fin H) (E : I → α → List Ent) (S : β → List Ent × Code) (hS : ∀ y, (S y).2 = .ret ∨ ∃ id, (S y).2 = .exit id) (x0 : α) (hL : (L0 ++ E i0 x0).Perm L)
    (hH : ∀ w, St C.M C.B w (L0 ++ E i0 x0) → H.p w ∧ ∀ b, H.A b → ∀ e ∈ E i0 x0, ¬ e.W b) (hps : ∀ i args j, nx i args j → args.length = ps.size)
    (round : ∀ l i args j x w ready busy, nx i args j → cx ⟨C.P, C.T, C.N, [fun b => b = l ∨ ∃ e ∈ E i x, e.W b], w, some l⟩ assign (beginK ⟨C.P, C.T, C.N, [fun b => b = l ∨ ∃ e ∈ E i x, e.W b], w, some l⟩ body (roundM E S l busy w (E i x) j) l (L0.length + (E i x).length) ready busy)
      ⟨putPs C.N ps.toList args σ, L0.map Ent.rd ++ E i x ++ [⟨l, some ready, false, none⟩], []⟩)
    (done : ∀ i y b0, fin i → K .normal ⟨σ, L0 ++ E i y ++ [dfe b0], { target := .collected b0, args := #[] } :: D⟩)
    (stop : ∀ y b0, K (exitOf (S y).2) ⟨σ, L0 ++ (S y).1 ++ [dfe b0], { target := .collected b0, args := #[] } :: D⟩) : CodeP C (.rangeFunc g ps assign body) K ⟨σ, L, D⟩ := by
  refine CodeP.from (L' := L0 ++ [rs (mres (E i0 x0))]) (fun w hs => by simpa using St.pack (Y := []) (by simpa using hs.perm hL)) ?_
  have hset : ∀ e e' : Ent, (L0 ++ [e]).set L0.length e' = L0 ++ [e'] := fun e e' => by simp
  refine CodeP.mono (K := fun x s => ∃ L', (∀ w, St C.M C.B w s.L → St C.M C.B w L') ∧ K x ⟨s.σ, L', s.D⟩) (fun x a w ⟨s, h1, h2, L', h3, h4⟩ => ⟨⟨s.σ, L', s.D⟩, ⟨h1.size, h1.defers, h1.slot⟩, h3 w h2, h4⟩) ?_
  refine rf' hT hF hcl hg hit L0.length (fun i x => rs (mres (E i x))) (fun y => (rs (mres (S y).1), (S y).2)) hS x0 (by simp) (fun w hs => ?_) hps (fun l i args j x w ready busy hn => ?_) (fun i y b0 hf => ?_) (fun y b0 => ?_)
  · have h1 := hH w (by simpa using St.unpack (Y := []) (by simpa using hs))
    exact ⟨h1.1, fun b hb hw => by obtain ⟨e, he, hw⟩ := (mresW _ _).1 hw; exact h1.2 b hb e he hw⟩
  · have hM : (fun b => b = l ∨ (rs (mres (E i x))).W b) = fun b => b = l ∨ ∃ e ∈ E i x, e.W b := by funext b; rw [mresW]
    rw [hM]
    have h1 := cx_ok (C := ⟨C.P, C.T, C.N, [fun b => b = l ∨ ∃ e ∈ E i x, e.W b], w, some l⟩) hT assign _ _ (round l i args j x w ready busy hn)
    refine CodeP.from (L' := L0.map Ent.rd ++ E i x ++ [⟨l, some ready, false, none⟩]) (fun w' hs => ?_) (h1.mono fun e a w' h => ?_)
    · have e1 : (List.map Ent.rd (L0 ++ [rs (mres (E i0 x0))])).set L0.length (rs (mres (E i x))) ++ [⟨l, some ready, false, none⟩] = L0.map Ent.rd ++ [rs (mres (E i x))] ++ [⟨l, some ready, false, none⟩] := by
        rw [List.map_append]; simp [List.set_append_right]
      rw [e1] at hs
      exact hs.unpack
    · obtain ⟨s, hf, hs, h2⟩ := h
      cases e with
      | normal =>
        obtain ⟨h3, h4⟩ := h2
        have h5 := (cx_ok (C := ⟨C.P, C.T, C.N, [fun b => b = l ∨ ∃ e ∈ E i x, e.W b], w, some l⟩) hT body _ _ h4).mono fun e a w' h => round_pack (C := ⟨C.P, C.T, C.N, [fun b => b = l ∨ ∃ e ∈ E i x, e.W b], w, some l⟩) e a w' h
        obtain ⟨hlt, hget⟩ := List.getElem?_eq_some_iff.1 h3
        have hsp : s.L = s.L.take (L0.length + (E i x).length) ++ ⟨l, some ready, false, none⟩ :: s.L.drop (L0.length + (E i x).length + 1) := by
          rw [← hget]; simp
        have hset2 : s.L.set (L0.length + (E i x).length) ⟨l, some busy, false, none⟩ = s.L.take (L0.length + (E i x).length) ++ ⟨l, some busy, false, none⟩ :: s.L.drop (L0.length + (E i x).length + 1) := List.set_eq_take_append_cons_drop.trans (if_pos hlt)
        rw [hset2] at h5
        generalize s.L.take (L0.length + (E i x).length) = A at *
        generalize s.L.drop (L0.length + (E i x).length + 1) = Z at *
        refine ⟨⟨s.σ, List.replicate (L0.length + 1) dead ++ ⟨l, some ready, false, none⟩ :: (A ++ Z), s.D⟩, ⟨hf.size, hf.defers, hf.slot⟩, ?_, ?_, ?_⟩
        · rw [hsp] at hs
          exact (hs.perm List.perm_middle.symm).pad _
        · simp
        · refine CodeP.from (L' := A ++ ⟨l, some busy, false, none⟩ :: Z) (fun w2 hs2 => ?_) h5
          have e2 : (List.replicate (L0.length + 1) dead ++ (⟨l, some ready, false, none⟩ : Ent) :: (A ++ Z)).set (L0 ++ [rs (mres (E i0 x0))]).length ⟨l, some busy, false, none⟩ = List.replicate (L0.length + 1) dead ++ (⟨l, some busy, false, none⟩ : Ent) :: (A ++ Z) := by
            rw [List.set_append_right _ _ (by simp)]; simp
          rw [e2] at hs2
          exact (hs2.sub (Sub.padL _ _)).perm List.perm_middle
      | _ => exact h2.elim
  · refine ⟨L0 ++ E i y ++ [dfe b0], fun w hs => ?_, done i y b0 hf⟩
    rw [hset] at hs
    exact hs.unpack
  · refine ⟨L0 ++ (S y).1 ++ [dfe b0], fun w hs => ?_, stop y b0⟩
    rw [hset] at hs
    exact hs.unpack
/-- append, where there is room -/
theorem apI {C : Cx} {L : List Ent} (k : Nat) (hT : TabOk C.P C.T) {t tx ty e z by' cap b : Nat} {zv : Value} {cs : Array Bool} {xs news j : List Value} {n m : Nat} {x : Value} {next : Value → List Ent → Prop}
    (ht : look C.T.rows t fun y _ => y = .sl e z) (hi : (C.P.info? e).map (fun i => (i.zero, i.size, i.bytes)) = some (some zv, z, by'))
    (hk : L[k]? = some (cl b (xs ++ j).toArray e)) (hn : xs.length = n * z) (hcap : (xs ++ j).length = cap * z) (hroom : n + m ≤ cap) (hsrc : ∀ w, St C.M C.B w L → Src C.P z tx x m news w)
    (go : next (.slice (some ⟨b, 0, none⟩) (n + m) cap) (L.set k (cl b (xs ++ news ++ j.drop news.length).toArray e))) : BiP C .append #[t, tx] ty cs [.slice (some ⟨b, 0, none⟩) n cap, x] L next := by
  refine apRun fun w hs => ?_
  obtain ⟨i0, hi0, hz0', rfl, hz2⟩ := infoOf hi
  have hsr := hsrc w hs
  have hlen : 0 + n * i0.size + news.length ≤ (xs ++ j).toArray.size := by
    rw [hsr.newsLen, List.size_toArray, hcap, Nat.zero_add, ← Nat.add_mul]; exact Nat.mul_le_mul_right _ hroom
  have hrun := run_append_room_src w t tx ty e i0 (slOf hT ht) hi0 b 0 n cap x m news hsr hroom (fun q hq => by
    rw [hs.cell hk]; have : 0 + n * i0.size + q < (xs ++ j).toArray.size := by omega
    simp
    simpa using this) (fun q hq => frozen_of_row w b _ _ e (hs.nth hk))
  refine ⟨_, _, _, hrun, ?_, go⟩
  have := hs.setCells hk (0 + n * i0.size) news hlen
  have e2 : ((xs ++ j).toArray.toList.take (0 + n * i0.size) ++ news ++ (xs ++ j).toArray.toList.drop (0 + n * i0.size + news.length)) = xs ++ news ++ j.drop news.length := by
    rw [Nat.zero_add, ← hn]; simp
  rw [e2] at this
  exact this
theorem apI1 {C : Cx} {L : List Ent} (k kn : Nat) (hT : TabOk C.P C.T) {t ty e by' cap b bn : Nat} {zv v : Value} {cs : Array Bool} {xs j : List Value} {n : Nat} {next : Value → List Ent → Prop}
    (ht : look C.T.rows t fun y _ => y = .sl e 1) (hi : (C.P.info? e).map (fun i => (i.zero, i.size, i.bytes)) = some (some zv, 1, by'))
    (hk : L[k]? = some (cl b (xs ++ j).toArray e)) (hn : xs.length = n) (hcap : (xs ++ j).length = cap) (hroom : n + 1 ≤ cap) (hkn : L[kn]? = some (cl bn #[v] e)) (h1 : v.oneCell' = true)
    (go : next (.slice (some ⟨b, 0, none⟩) (n + 1) cap) (L.set k (cl b (xs ++ [v] ++ j.drop 1).toArray e))) : BiP C .append #[t, t] ty cs [.slice (some ⟨b, 0, none⟩) n cap, .slice (some ⟨bn, 0, none⟩) 1 1] L next :=
  apI (news := [v]) k hT ht hi hk (by omega) (by omega) hroom (srcE ht hT (src kn hkn rfl) rfl (by simpa using h1)) go
theorem ap1 {C : Cx} {L : List Ent} (k kn : Nat) (hT : TabOk C.P C.T) {t ty e by' bn : Nat} {zv v : Value} {cs : Array Bool} {r : Sx.Own} {xs : List Value} {n : Nat} {next : Value → List Ent → Prop}
    (ht : look C.T.rows t fun y _ => y = .sl e 1) (hi : (C.P.info? e).map (fun i => (i.zero, i.size, i.bytes)) = some (some zv, 1, by')) (hz : zv.cells.size = 1)
    (hk : L[k]? = some (se r xs e)) (hR : Rw 1 n r xs) (hkn : L[kn]? = some (cl bn #[v] e)) (h1 : v.oneCell' = true) (hby : (n + 1 + (n + 1) / 4 + 192) * by' ≤ 281474976710656) (h63 : n + 1 ≤ maxLen)
    (go : ∀ r', Rw 1 (n + 1) r' (xs ++ [v]) → next (sv r' (n + 1)) (L.set k (se r' (xs ++ [v]) e))) : BiP C .append #[t, t] ty cs [sv r n, .slice (some ⟨bn, 0, none⟩) 1 1] L next :=
  ap (news := [v]) (m := 1) k hT ht hi hz hk hR (srcE ht hT (src kn hkn rfl) rfl (by simpa using h1)) hby h63 go
/-- a row of zeros is made -/
theorem made1 {P : Program} {t e : TypeId} {zv : Value} {by' : Nat} (w : World) (ht : P.underlying t = some (.slice e)) (hi : (P.info? e).map (fun i => (i.zero, i.size, i.bytes)) = some (some zv, 1, by')) (hzv : zv.cells = #[zv]) (l c : Nat) (hlc : l ≤ c) (hc : c * by' ≤ 100000000) (hc2 : c ≤ 100000000) :
    (Instr.makeSlice t (.int .i64 (l : Int)) (.int .i64 (c : Int))).run P w = .ok (.slice (some ⟨w.heap.size, 0, none⟩) l c) (w.alloc (.cells (List.replicate c zv).toArray e)) := by
  obtain ⟨i, hi, hz, hs, hb⟩ := infoOf hi
  have h := run_make (P := P) w t e i _ ht hi hz .i64 .i64 (l : Int) (c : Int) (by omega) (by omega) (by rw [hb, Int.mul_comm, ← Int.natCast_mul, Nat.mul_comm]; first | omega | (rw [Nat.mul_comm]; omega)) (by omega)
  rw [hs] at h
  simp only [Int.toNat_natCast, Nat.mul_one] at h
  rw [h]
  congr 2
  simp only [madeCells, hzv]
  congr 1
  apply Array.ext
  · simp
  · intro i h1 h2
    simp [Nat.mod_one]
theorem St.reads {w : World} {L : List Ent} (h : ∀ e ∈ L, e.Ok w ∧ ∀ k, ¬ e.W k) : St [] w w L :=
  St.from w [] L (fun e he => ⟨(h e he).1, fun k hk => absurd hk ((h e he).2 k)⟩) (List.pairwise_of_forall_mem_list fun a ha b hb k => ⟨fun h1 => absurd h1 ((h a ha).2 k), fun h1 => absurd h1 ((h b hb).2 k)⟩)
/-- one cell is stored, and what then stands there -/
theorem s1e (k : Nat) (e : Array Value) {C : Cx} {L : List Ent} {b o : Nat} {c : Array Value} {t t' : TypeId} {v : Value} {next : List Ent → Prop} (hk : L[k]? = some (cl b c t')) (ho : o < c.size) (he : c.setIfInBounds o v = e) (go : next (L.set k (cl b e t')))
    (h1 : sizeIs C.P t 1 = true := by kernel_rfl) (h2 : v.oneCell' = true := by rfl) (h3 : v.cells = #[v] := by rfl) : StP C t L b o v next := by
  subst he; exact s1 k hk ho go h1 h2 h3
/-- a call that gives one of several values -/
theorem ce {C : Cx} {L : List Ent} {α : Type} {Φ : α → Prop} {v : α → Value} {g : FuncId} {vs : List Value} {next : Value → List Ent → Prop}
    (h : ∀ w, St C.M C.B w L → Calls C.P g vs.toArray w fun e w' => ∃ x, Φ x ∧ e = .returned (v x) ∧ Below w.heap.size w w') (go : ∀ x, Φ x → next (v x) L) : CallP C g vs L next :=
  cg h fun w e w' hs ⟨x, hx, he, hb⟩ => ⟨_, _, he, hs.call hb, go x hx⟩
/-- a region that draws ends in one state -/
theorem cut {C : Cx} {id : Nat} {ops : Array Oper} {K : Exit → Sy → Prop} {s : Sy} {α : Type} (J : α → Prop) (f : α → Sy) (h : DrawP C id ops (fun e s' => match e with | .normal => ∃ x, J x ∧ Le (f x) s' | _ => False) s) (go : ∀ x, J x → K .normal (f x)) : DrawP C id ops K s := by
  refine ⟨fun n a w hf hs => wpIn_mono (h.go n a w hf hs) fun e a' w' hq => ?_⟩
  obtain ⟨s', hf', hs', hk⟩ := hq
  cases e with
  | normal => obtain ⟨x, hx, hle⟩ := hk; exact ⟨f x, hf'.le hle, hs'.sub hle.l, go x hx⟩
  | _ => exact hk.elim
/-- the same, where what is known may stand in another order -/
theorem cutp {C : Cx} {id : Nat} {ops : Array Oper} {K : Exit → Sy → Prop} {s : Sy} {α : Type} (J : α → Prop) (f : α → Sy)
    (h : DrawP C id ops (fun e s' => match e with | .normal => ∃ x, J x ∧ leF (f x).σ s'.σ ∧ (∃ L', (f x).L.Perm L' ∧ Sub L' s'.L) ∧ (f x).D = s'.D | _ => False) s) (go : ∀ x, J x → K .normal (f x)) : DrawP C id ops K s := by
  refine ⟨fun n a w hf hs => wpIn_mono (h.go n a w hf hs) fun e a' w' hq => ?_⟩
  obtain ⟨s', hf', hs', hk⟩ := hq
  cases e with
  | normal => obtain ⟨x, hx, hle, ⟨L', hp, hsub⟩, hd⟩ := hk; exact ⟨f x, ⟨hf'.size, hf'.defers.trans hd.symm, fun i v hv => hf'.slot i v (leF_get hle i v hv)⟩, (hs'.sub hsub).perm hp, go x hx⟩
  | _ => exact hk.elim
end Go.Sx
