/- For every seed the law SignPublic returns true; no condition. -/
import Derived.Great.BuildSlice
import Derived.Test.YtjiagjonlcadiaaProg
import Derived.WalkKit
import Derived.WalkSpells
import Derived.WalkLawsBesides
import Derived.Deep.QuietTactic
import Derived.BigQuiet
import Derived.Deep.RegionHeld3
import Derived.StillTailTactics
import Derived.Lib.Mul64
import Derived.Laws.Bits64b
import Derived.Laws.Externs
import Derived.Lib.Hide
import Derived.RowKit3
import Derived.LoopTactic
import Derived.Deep.LoopGhost
import Derived.Laws.Rows
import Derived.Laws.Tables
import Derived.Deep.MidRow
import Derived.OwnWalk
import Derived.Outline
import Derived.OrdersHeld
import Derived.BigRegion
import Derived.Laws.StructEq
import Derived.Test.YtjiagjonlcadiaaGb1
set_option maxRecDepth 100000
set_option maxHeartbeats 16000000
set_option linter.unusedVariables false
set_option linter.unusedSimpArgs false
namespace Go.Sx
section
open Go Go.RowKit
def za (es : List Ent) : Res where
 w k := ∃ e ∈ es, e.W k
 r k := ∃ e ∈ es, e.A k
 p u := (∀ e ∈ es, e.Ok u) ∧ es.Pairwise Apart
 st u v h := fun ⟨h1, h2⟩ => ⟨fun e he => (h1 e he).same fun k hk => h k (.inr ⟨e, he, hk⟩), h2⟩
 bd u := fun ⟨h1, h2⟩ k hk => by
  rcases hk with ⟨e, he, hk⟩ | ⟨e, he, hk⟩
  · exact (h1 e he).lt hk.a
  · exact (h1 e he).lt hk
theorem qdH (es : List Ent) (k : Nat) : (rs (za es)).W k ↔ ∃ e ∈ es, e.W k := by simp [za]
theorem mresA (es : List Ent) (k : Nat) : (rs (za es)).A k ↔ ∃ e ∈ es, e.A k := by
 simp only [rsA, za]
 exact ⟨fun h => h.elim (fun ⟨e, he, h⟩ => ⟨e, he, h.a⟩) id, .inr⟩
theorem ZY (x : Ent) (es : List Ent) : Apart x (rs (za es)) ↔ ∀ e ∈ es, Apart x e := by
 constructor
 · exact fun h e he k => ⟨fun h1 h2 => (h k).1 h1 ((mresA es k).2 ⟨e, he, h2⟩), fun h1 h2 => (h k).2 ((qdH es k).2 ⟨e, he, h1⟩) h2⟩
 · exact fun h k => ⟨fun h1 h2 => by obtain ⟨e, he, h2⟩ := (mresA es k).1 h2; exact (h e he k).1 h1 h2, fun h1 h2 => by obtain ⟨e, he, h1⟩ := (qdH es k).1 h1; exact (h e he k).2 h1 h2⟩
section
variable {M : Bks} {B w : World} {X Y es : List Ent}
theorem St.pack (h : St M B w (X ++ es ++ Y)) : St M B w (X ++ [rs (za es)] ++ Y) := by
 have hp := h.apart
 rw [List.append_assoc, List.pairwise_append, List.pairwise_append] at hp
 refine ⟨h.os, h.tape, h.output, h.size, h.old, ?_, ?_, ?_⟩
 · intro e he
   simp only [List.mem_append, List.mem_singleton] at he
   rcases he with (he | rfl) | he
   · exact h.ok e (by simp [he])
   · exact (rsOk _ _).2 ⟨fun e he => h.ok e (by simp [he]), hp.2.1.1⟩
   · exact h.ok e (by simp [he])
 · intro e he k hk
   simp only [List.mem_append, List.mem_singleton] at he
   rcases he with (he | rfl) | he
   · exact h.ownW e (by simp [he]) k hk
   · obtain ⟨e, he, hk⟩ := (qdH es k).1 hk; exact h.ownW e (by simp [he]) k hk
   · exact h.ownW e (by simp [he]) k hk
 · rw [List.append_assoc, List.pairwise_append, List.pairwise_append]
   refine ⟨hp.1, ⟨by simp, hp.2.1.2.1, ?_⟩, ?_⟩
   · intro a ha b hb
     obtain rfl : a = _ := by simpa using ha
     exact ((ZY b es).2 fun e he => (hp.2.1.2.2 e he b hb).symm).symm
   · intro a ha b hb
     simp only [List.mem_append, List.mem_singleton] at hb
     rcases hb with rfl | hb
     · exact (ZY a es).2 fun e he => hp.2.2 a ha e (by simp [he])
     · exact hp.2.2 a ha b (by simp [hb])
theorem St.unpack (h : St M B w (X ++ [rs (za es)] ++ Y)) : St M B w (X ++ es ++ Y) := by
 have hp := h.apart
 rw [List.append_assoc, List.pairwise_append, List.pairwise_append] at hp
 have hm := (rsOk _ _).1 (h.ok (rs (za es)) (by simp))
 refine ⟨h.os, h.tape, h.output, h.size, h.old, ?_, ?_, ?_⟩
 · intro e he
   simp only [List.mem_append] at he
   rcases he with (he | he) | he
   · exact h.ok e (by simp [he])
   · exact hm.1 e he
   · exact h.ok e (by simp [he])
 · intro e he k hk
   simp only [List.mem_append] at he
   rcases he with (he | he) | he
   · exact h.ownW e (by simp [he]) k hk
   · exact h.ownW (rs (za es)) (by simp) k ((qdH es k).2 ⟨e, he, hk⟩)
   · exact h.ownW e (by simp [he]) k hk
 · rw [List.append_assoc, List.pairwise_append, List.pairwise_append]
   refine ⟨hp.1, ⟨hm.2, hp.2.1.2.1, ?_⟩, ?_⟩
   · intro a ha b hb
     exact ((ZY b es).1 (hp.2.1.2.2 _ (by simp) b hb).symm a ha).symm
   · intro a ha b hb
     simp only [List.mem_append] at hb
     rcases hb with hb | hb
     · exact (ZY a es).1 (hp.2.2 a ha _ (by simp)) b hb
     · exact hp.2.2 a ha b (by simp [hb])
theorem St.perm {L L' : List Ent} (h : St M B w L) (hp : L'.Perm L) : St M B w L' :=
 ⟨h.os, h.tape, h.output, h.size, h.old, fun e he => h.ok e (hp.mem_iff.1 he), fun e he => h.ownW e (hp.mem_iff.1 he), (hp.pairwise_iff (fun {a b} h => Apart.symm h)).2 h.apart⟩
theorem St.pad {L : List Ent} (h : St M B w L) (n : Nat) : St M B w (List.replicate n dead ++ L) := by
 induction n with
 | zero => exact h
 | succ n ih => exact ih.deads.perm (by rw [List.replicate_succ, List.cons_append]; exact (List.perm_append_singleton _ _).symm)
theorem Sub.padL (n : Nat) (L : List Ent) : Sub L (List.replicate n Sx.dead ++ L) := by
 induction n with
 | zero => exact Sub.refl L
 | succ n ih => exact .drop ih
end
theorem CodeP.from {C : Cx} {c : Code} {K : Exit → Sy → Prop} {σ : Fr} {L L' : List Ent} {D : List Deferred} (h : ∀ w, St C.M C.B w L → St C.M C.B w L') (hc : CodeP C c K ⟨σ, L', D⟩) : CodeP C c K ⟨σ, L, D⟩ := ⟨fun n a w hf hs => hc.go n a w ⟨hf.size, hf.defers, hf.slot⟩ (h w hs)⟩
def roundM {I α β : Type} (E : I → α → List Ent) (S : β → List Ent × Code) (l : Nat) (busy : Obj) (B : World) (es : List Ent) (j : I) : Exit → Sy → Prop := fun x s => match x with
 | .normal => ∃ y, Sub (E j y ++ [⟨l, some busy, false, none⟩]) s.L ∧ ∀ e ∈ E j y, ∀ b, e.A b → (∃ f ∈ es, f.A b) ∨ B.heap.size ≤ b
 | .ret => ∃ y, (S y).2 = .ret ∧ Sub ((S y).1 ++ [⟨l, some busy, false, none⟩]) s.L ∧ ∀ e ∈ (S y).1, ∀ b, e.A b → (∃ f ∈ es, f.A b) ∨ B.heap.size ≤ b
 | .exit id => ∃ y, (S y).2 = .exit id ∧ Sub ((S y).1 ++ [⟨l, some busy, false, none⟩]) s.L ∧ ∀ e ∈ (S y).1, ∀ b, e.A b → (∃ f ∈ es, f.A b) ∨ B.heap.size ≤ b
 | _ => False
theorem qb0 {C : Cx} {a : Act} {w : World} {s : Sy} {es : List Ent} {e : Ent} {k : Exit → Sy → Prop} {x : Exit} (hf : Fits C.N s a) (hs : St C.M C.B w s.L) (hb : Sub (es ++ [e]) s.L) (h : ∀ s', s'.L = [rs (za es), e] → k x s') : zQ C (k x) a w :=
 ⟨⟨s.σ, [rs (za es), e], s.D⟩, ⟨hf.size, hf.defers, hf.slot⟩, (show St C.M C.B w ([] ++ es ++ [e]) from hs.sub hb).pack, h _ rfl⟩
theorem round_pack {C : Cx} {I α β : Type} {E : I → α → List Ent} {S : β → List Ent × Code} {l : Nat} {busy : Obj} {es : List Ent} {j : I} (x : Exit) (a : Act) (w : World) (h : zQ C (roundM E S l busy C.B es j x) a w) : zQ C (qbQ (fun i y => rs (za (E i y))) (fun y => (rs (za (S y).1), (S y).2)) l busy C.B (rs (za es)) j x) a w := by
 obtain ⟨s, hf, hs, hr⟩ := h
 have hA : ∀ e1 : List Ent, (∀ e ∈ e1, ∀ b, e.A b → (∃ f ∈ es, f.A b) ∨ C.B.heap.size ≤ b) → ∀ b, (rs (za e1)).A b → (rs (za es)).A b ∨ C.B.heap.size ≤ b := by
  intro e1 h1 b hb
  obtain ⟨e, he, hb⟩ := (mresA _ _).1 hb
  exact (h1 e he b hb).imp (mresA _ _).2 id
 cases x with
 | normal => obtain ⟨y, h1, h2⟩ := hr; exact qb0 (k := qbQ (fun i y => rs (za (E i y))) (fun y => (rs (za (S y).1), (S y).2)) l busy C.B (rs (za es)) j) hf hs h1 fun s' e => ⟨y, by rw [e]; exact .cons (.cons .nil), hA _ h2⟩
 | ret => obtain ⟨y, h0, h1, h2⟩ := hr; exact qb0 (k := qbQ (fun i y => rs (za (E i y))) (fun y => (rs (za (S y).1), (S y).2)) l busy C.B (rs (za es)) j) hf hs h1 fun s' e => ⟨y, h0, by rw [e]; exact .cons (.cons .nil), hA _ h2⟩
 | exit id => obtain ⟨y, h0, h1, h2⟩ := hr; exact qb0 (k := qbQ (fun i y => rs (za (E i y))) (fun y => (rs (za (S y).1), (S y).2)) l busy C.B (rs (za es)) j) hf hs h1 fun s' e => ⟨y, h0, by rw [e]; exact .cons (.cons .nil), hA _ h2⟩
 | _ => exact hr.elim
theorem rfm {C : Cx} (hT : TabOk C.P C.T) (hF : C.F = none) {g : Operand} {ps : Array Tmp} {assign body : Code} {K : Exit → Sy → Prop} {σ : Fr} {L0 L : List Ent} {D : List Deferred} {gf : FuncId} {lb : Array Value} {I α β : Type} {i0 : I} {nx : I → List Value → I → Prop} {fin : I → Prop} {H : Res}
 (hcl : zz C.T gf = true) (hg : ev σ g (· = .func (.func gf) #[] lb)) (hit : Itr C.P gf lb.toList i0 nx fin H) (E : I → α → List Ent) (S : β → List Ent × Code) (hS : ∀ y, (S y).2 = .ret ∨ ∃ id, (S y).2 = .exit id) (x0 : α) (hL : (L0 ++ E i0 x0).Perm L)
 (hH : ∀ w, St C.M C.B w (L0 ++ E i0 x0) → H.p w ∧ ∀ b, H.A b → ∀ e ∈ E i0 x0, ¬ e.W b) (hps : ∀ i args j, nx i args j → args.length = ps.size)
 (round : ∀ l i args j x w ready busy, nx i args j → cx ⟨C.P, C.T, C.N, [fun b => b = l ∨ ∃ e ∈ E i x, e.W b], w, some l⟩ assign (beginK ⟨C.P, C.T, C.N, [fun b => b = l ∨ ∃ e ∈ E i x, e.W b], w, some l⟩ body (roundM E S l busy w (E i x) j) l (L0.length + (E i x).length) ready busy)
  ⟨putPs C.N ps.toList args σ, L0.map Ent.rd ++ E i x ++ [⟨l, some ready, false, none⟩], []⟩)
 (done : ∀ i y b0, fin i → K .normal ⟨σ, L0 ++ E i y ++ [dfe b0], { target := .collected b0, args := #[] } :: D⟩)
 (stop : ∀ y b0, K (exitOf (S y).2) ⟨σ, L0 ++ (S y).1 ++ [dfe b0], { target := .collected b0, args := #[] } :: D⟩) : CodeP C (.rangeFunc g ps assign body) K ⟨σ, L, D⟩ := by
 refine CodeP.from (L' := L0 ++ [rs (za (E i0 x0))]) (fun w hs => by simpa using St.pack (Y := []) (by simpa using hs.perm hL)) ?_
 have hset : ∀ e e' : Ent, (L0 ++ [e]).set L0.length e' = L0 ++ [e'] := fun e e' => by simp
 refine CodeP.mono (K := fun x s => ∃ L', (∀ w, St C.M C.B w s.L → St C.M C.B w L') ∧ K x ⟨s.σ, L', s.D⟩) (fun x a w ⟨s, h1, h2, L', h3, h4⟩ => ⟨⟨s.σ, L', s.D⟩, ⟨h1.size, h1.defers, h1.slot⟩, h3 w h2, h4⟩) ?_
 refine rf' hT hF hcl hg hit L0.length (fun i x => rs (za (E i x))) (fun y => (rs (za (S y).1), (S y).2)) hS x0 (by simp) (fun w hs => ?_) hps (fun l i args j x w ready busy hn => ?_) (fun i y b0 hf => ?_) (fun y b0 => ?_)
 · have h1 := hH w (by simpa using St.unpack (Y := []) (by simpa using hs))
   exact ⟨h1.1, fun b hb hw => by obtain ⟨e, he, hw⟩ := (qdH _ _).1 hw; exact h1.2 b hb e he hw⟩
 · have hM : (fun b => b = l ∨ (rs (za (E i x))).W b) = fun b => b = l ∨ ∃ e ∈ E i x, e.W b := by funext b; rw [qdH]
   rw [hM]
   have h1 := qdd (C := ⟨C.P, C.T, C.N, [fun b => b = l ∨ ∃ e ∈ E i x, e.W b], w, some l⟩) hT assign _ _ (round l i args j x w ready busy hn)
   refine CodeP.from (L' := L0.map Ent.rd ++ E i x ++ [⟨l, some ready, false, none⟩]) (fun w' hs => ?_) (h1.mono fun e a w' h => ?_)
   · have e1 : (List.map Ent.rd (L0 ++ [rs (za (E i0 x0))])).set L0.length (rs (za (E i x))) ++ [⟨l, some ready, false, none⟩] = L0.map Ent.rd ++ [rs (za (E i x))] ++ [⟨l, some ready, false, none⟩] := by
      rw [List.map_append]; simp [List.set_append_right]
     rw [e1] at hs
     exact hs.unpack
   · obtain ⟨s, hf, hs, h2⟩ := h
     cases e with
     | normal =>
      obtain ⟨h3, h4⟩ := h2
      have h5 := (qdd (C := ⟨C.P, C.T, C.N, [fun b => b = l ∨ ∃ e ∈ E i x, e.W b], w, some l⟩) hT body _ _ h4).mono fun e a w' h => round_pack (C := ⟨C.P, C.T, C.N, [fun b => b = l ∨ ∃ e ∈ E i x, e.W b], w, some l⟩) e a w' h
      obtain ⟨hlt, hget⟩ := List.getElem?_eq_some_iff.1 h3
      have hsp : s.L = s.L.take (L0.length + (E i x).length) ++ ⟨l, some ready, false, none⟩ :: s.L.drop (L0.length + (E i x).length + 1) := by
       rw [← hget]; simp
      have hset2 : s.L.set (L0.length + (E i x).length) ⟨l, some busy, false, none⟩ = s.L.take (L0.length + (E i x).length) ++ ⟨l, some busy, false, none⟩ :: s.L.drop (L0.length + (E i x).length + 1) := List.set_eq_take_append_cons_drop.trans (if_pos hlt)
      rw [hset2] at h5
      generalize s.L.take (L0.length + (E i x).length) = A at *
      generalize s.L.drop (L0.length + (E i x).length + 1) = Z at *
      refine ⟨⟨s.σ, List.replicate (L0.length + 1) dead ++ ⟨l, some ready, false, none⟩ :: (A ++ Z), s.D⟩, ⟨hf.size, hf.defers, hf.slot⟩, ?_, ?_, ?_⟩
      · rw [hsp] at hs
        exact (hs.perm List.perm_middle.symm).pad _
      · simp
      · refine CodeP.from (L' := A ++ ⟨l, some busy, false, none⟩ :: Z) (fun w2 hs2 => ?_) h5
        have e2 : (List.replicate (L0.length + 1) dead ++ (⟨l, some ready, false, none⟩ : Ent) :: (A ++ Z)).set (L0 ++ [rs (za (E i0 x0))]).length ⟨l, some busy, false, none⟩ = List.replicate (L0.length + 1) dead ++ (⟨l, some busy, false, none⟩ : Ent) :: (A ++ Z) := by
         rw [List.set_append_right _ _ (by simp)]; simp
        rw [e2] at hs2
        exact (hs2.sub (Sub.padL _ _)).perm List.perm_middle
     | _ => exact h2.elim
 · refine ⟨L0 ++ E i y ++ [dfe b0], fun w hs => ?_, done i y b0 hf⟩
   rw [hset] at hs
   exact hs.unpack
 · refine ⟨L0 ++ (S y).1 ++ [dfe b0], fun w hs => ?_, stop y b0⟩
   rw [hset] at hs
   exact hs.unpack
theorem apI {C : Cx} {L : List Ent} (k : Nat) (hT : TabOk C.P C.T) {t tx ty e z by' cap b : Nat} {zv : Value} {cs : Array Bool} {xs news j : List Value} {n m : Nat} {x : Value} {next : Value → List Ent → Prop}
 (ht : Zm C.T.rows t fun y _ => y = .sl e z) (hi : (C.P.info? e).map (fun i => (i.zero, i.size, i.bytes)) = some (some zv, z, by'))
 (hk : L[k]? = some (cl b (xs ++ j).toArray e)) (hn : xs.length = n * z) (hcap : (xs ++ j).length = cap * z) (hroom : n + m ≤ cap) (hsrc : ∀ w, St C.M C.B w L → Src C.P z tx x m news w)
 (go : next (.slice (some ⟨b, 0, none⟩) (n + m) cap) (L.set k (cl b (xs ++ news ++ j.drop news.length).toArray e))) : BiP C .append #[t, tx] ty cs [.slice (some ⟨b, 0, none⟩) n cap, x] L next := by
 refine apRun fun w hs => ?_
 obtain ⟨i0, hi0, hz0', rfl, hz2⟩ := zm hi
 have hsr := hsrc w hs
 have hlen : 0 + n * i0.size + news.length ≤ (xs ++ j).toArray.size := by
  rw [hsr.newsLen, List.size_toArray, hcap, Nat.zero_add, ← Nat.add_mul]; exact Nat.mul_le_mul_right _ hroom
 have hrun := run_append_room_src w t tx ty e i0 (slOf hT ht) hi0 b 0 n cap x m news hsr hroom (fun q hq => by
  rw [hs.cell hk]; have : 0 + n * i0.size + q < (xs ++ j).toArray.size := by omega
  simp
  simpa using this) (fun q hq => frozen_of_row w b _ _ e (hs.nth hk))
 refine ⟨_, _, _, hrun, ?_, go⟩
 have := hs.setCells hk (0 + n * i0.size) news hlen
 have e2 : ((xs ++ j).toArray.toList.take (0 + n * i0.size) ++ news ++ (xs ++ j).toArray.toList.drop (0 + n * i0.size + news.length)) = xs ++ news ++ j.drop news.length := by
  rw [Nat.zero_add, ← hn]; simp
 rw [e2] at this
 exact this
theorem apI1 {C : Cx} {L : List Ent} (k kn : Nat) (hT : TabOk C.P C.T) {t ty e by' cap b bn : Nat} {zv v : Value} {cs : Array Bool} {xs j : List Value} {n : Nat} {next : Value → List Ent → Prop}
 (ht : Zm C.T.rows t fun y _ => y = .sl e 1) (hi : (C.P.info? e).map (fun i => (i.zero, i.size, i.bytes)) = some (some zv, 1, by'))
 (hk : L[k]? = some (cl b (xs ++ j).toArray e)) (hn : xs.length = n) (hcap : (xs ++ j).length = cap) (hroom : n + 1 ≤ cap) (hkn : L[kn]? = some (cl bn #[v] e)) (h1 : v.oneCell' = true)
 (go : next (.slice (some ⟨b, 0, none⟩) (n + 1) cap) (L.set k (cl b (xs ++ [v] ++ j.drop 1).toArray e))) : BiP C .append #[t, t] ty cs [.slice (some ⟨b, 0, none⟩) n cap, .slice (some ⟨bn, 0, none⟩) 1 1] L next :=
 apI (news := [v]) k hT ht hi hk (by omega) (by omega) hroom (srcE ht hT (src kn hkn rfl) rfl (by simpa using h1)) go
theorem ap1 {C : Cx} {L : List Ent} (k kn : Nat) (hT : TabOk C.P C.T) {t ty e by' bn : Nat} {zv v : Value} {cs : Array Bool} {r : Sx.Own} {xs : List Value} {n : Nat} {next : Value → List Ent → Prop}
 (ht : Zm C.T.rows t fun y _ => y = .sl e 1) (hi : (C.P.info? e).map (fun i => (i.zero, i.size, i.bytes)) = some (some zv, 1, by')) (hz : zv.cells.size = 1)
 (hk : L[k]? = some (se r xs e)) (hR : Rw 1 n r xs) (hkn : L[kn]? = some (cl bn #[v] e)) (h1 : v.oneCell' = true) (hby : (n + 1 + (n + 1) / 4 + 192) * by' ≤ 281474976710656) (h63 : n + 1 ≤ maxLen)
 (go : ∀ r', Rw 1 (n + 1) r' (xs ++ [v]) → next (sv r' (n + 1)) (L.set k (se r' (xs ++ [v]) e))) : BiP C .append #[t, t] ty cs [sv r n, .slice (some ⟨bn, 0, none⟩) 1 1] L next :=
 ap (news := [v]) (m := 1) k hT ht hi hz hk hR (srcE ht hT (src kn hkn rfl) rfl (by simpa using h1)) hby h63 go
theorem made1 {P : Program} {t e : TypeId} {zv : Value} {by' : Nat} (w : World) (ht : P.underlying t = some (.slice e)) (hi : (P.info? e).map (fun i => (i.zero, i.size, i.bytes)) = some (some zv, 1, by')) (hzv : zv.cells = #[zv]) (l c : Nat) (hlc : l ≤ c) (hc : c * by' ≤ 100000000) (hc2 : c ≤ 100000000) :
 (Instr.makeSlice t (.int .i64 (l : Int)) (.int .i64 (c : Int))).run P w = .ok (.slice (some ⟨w.heap.size, 0, none⟩) l c) (w.alloc (.cells (List.replicate c zv).toArray e)) := by
 obtain ⟨i, hi, hz, hs, hb⟩ := zm hi
 have h := run_make (P := P) w t e i _ ht hi hz .i64 .i64 (l : Int) (c : Int) (by omega) (by omega) (by rw [hb, Int.mul_comm, ← Int.natCast_mul, Nat.mul_comm]; first | omega | (rw [Nat.mul_comm]; omega)) (by omega)
 rw [hs] at h
 simp only [Int.toNat_natCast, Nat.mul_one] at h
 rw [h]
 congr 2
 simp only [madeCells, hzv]
 congr 1
 apply Array.ext
 · simp
 · intro i h1 h2
   simp [Nat.mod_one]
theorem St.reads {w : World} {L : List Ent} (h : ∀ e ∈ L, e.Ok w ∧ ∀ k, ¬ e.W k) : St [] w w L :=
 St.from w [] L (fun e he => ⟨(h e he).1, fun k hk => absurd hk ((h e he).2 k)⟩) (List.pairwise_of_forall_mem_list fun a ha b hb k => ⟨fun h1 => absurd h1 ((h a ha).2 k), fun h1 => absurd h1 ((h b hb).2 k)⟩)
theorem s1e (k : Nat) (e : Array Value) {C : Cx} {L : List Ent} {b o : Nat} {c : Array Value} {t t' : TypeId} {v : Value} {next : List Ent → Prop} (hk : L[k]? = some (cl b c t')) (ho : o < c.size) (he : c.setIfInBounds o v = e) (go : next (L.set k (cl b e t')))
 (h1 : zj C.P t 1 = true := by kernel_rfl) (h2 : v.oneCell' = true := by rfl) (h3 : v.cells = #[v] := by rfl) : StP C t L b o v next := by
 subst he; exact s1 k hk ho go h1 h2 h3
theorem ce {C : Cx} {L : List Ent} {α : Type} {Φ : α → Prop} {v : α → Value} {g : FuncId} {vs : List Value} {next : Value → List Ent → Prop}
 (h : ∀ w, St C.M C.B w L → Calls C.P g vs.toArray w fun e w' => ∃ x, Φ x ∧ e = .returned (v x) ∧ Below w.heap.size w w') (go : ∀ x, Φ x → next (v x) L) : qcg C g vs L next :=
 cg h fun w e w' hs ⟨x, hx, he, hb⟩ => ⟨_, _, he, hs.call hb, go x hx⟩
theorem cut {C : Cx} {id : Nat} {ops : Array Oper} {K : Exit → Sy → Prop} {s : Sy} {α : Type} (J : α → Prop) (f : α → Sy) (h : qce C id ops (fun e s' => match e with | .normal => ∃ x, J x ∧ Le (f x) s' | _ => False) s) (go : ∀ x, J x → K .normal (f x)) : qce C id ops K s := by
 refine ⟨fun n a w hf hs => wpIn_mono (h.go n a w hf hs) fun e a' w' hq => ?_⟩
 obtain ⟨s', hf', hs', hk⟩ := hq
 cases e with
 | normal => obtain ⟨x, hx, hle⟩ := hk; exact ⟨f x, hf'.le hle, hs'.sub hle.l, go x hx⟩
 | _ => exact hk.elim
theorem cutp {C : Cx} {id : Nat} {ops : Array Oper} {K : Exit → Sy → Prop} {s : Sy} {α : Type} (J : α → Prop) (f : α → Sy)
 (h : qce C id ops (fun e s' => match e with | .normal => ∃ x, J x ∧ leF (f x).σ s'.σ ∧ (∃ L', (f x).L.Perm L' ∧ Sub L' s'.L) ∧ (f x).D = s'.D | _ => False) s) (go : ∀ x, J x → K .normal (f x)) : qce C id ops K s := by
 refine ⟨fun n a w hf hs => wpIn_mono (h.go n a w hf hs) fun e a' w' hq => ?_⟩
 obtain ⟨s', hf', hs', hk⟩ := hq
 cases e with
 | normal => obtain ⟨x, hx, hle, ⟨L', hp, hsub⟩, hd⟩ := hk; exact ⟨f x, ⟨hf'.size, hf'.defers.trans hd.symm, fun i v hv => hf'.slot i v (leF_get hle i v hv)⟩, (hs'.sub hsub).perm hp, go x hx⟩
 | _ => exact hk.elim
end
end Go.Sx
namespace Go.Proofs.Ytjiagjonlcadiaa
section
open Go.RowKit Go.Sx
theorem biMin {C : Cx} {L : List Ent} {ts : Array TypeId} {t : TypeId} {cs : Array Bool} {k : IntKind} {x y : Int} {next : Value → List Ent → Prop} (go : next (.int k (min x y)) L) : BiP C .min ts t cs [.int k x, .int k y] L next := by
 have e : (if y < x then y else x) = min x y := by split <;> omega
 rw [← e] at go
 exact biV (m := Builtin.min_ ts t #[.int k x, .int k y]) rfl (fun w _ => run_min_int2 w ts t k k x y) go
theorem trn_w (x : Wd) (n : Nat) (hn : n ≤ 64) (i : Int) (hi : i = n) : trn (ux x) i = ux (rot x n) := by
 unfold trn rot
 rw [qcz x n hn i hi, u_shl x (64 - n) (by omega) (64 - i) (by omega), u_or]
abbrev ptr (b : Nat) : Value := .pointer (some ⟨b, 0, none⟩)
def chV (sb so len n i : Nat) : Value := .slice (some ⟨sb, so + i, none⟩) (min n (len - i)) (min n (len - i))
def chNx (sb so len n : Nat) (i : Nat) (args : List Value) (j : Nat) : Prop := i < len ∧ i % n = 0 ∧ args = [chV sb so len n i] ∧ j = i + n
def chH (b2 b3 sb so len cap n : Nat) : Res where
 w _ := False
 r k := k = b2 ∨ k = b3
 p u := u.heap[b2]? = some (.cells #[.slice (some ⟨sb, so, none⟩) len cap] 22 (0, 0)) ∧ u.heap[b3]? = some (.cells #[.int .i64 n] 3 (0, 0))
 st u v h := fun ⟨h1, h2⟩ => ⟨(h _ (.inr (.inl rfl))).trans h1, (h _ (.inr (.inr rfl))).trans h2⟩
 bd u := fun ⟨h1, h2⟩ k hk => by
  rcases hk with hk | rfl | rfl
  · exact hk.elim
  · exact (Array.getElem?_eq_some_iff.1 h1).1
  · exact (Array.getElem?_eq_some_iff.1 h2).1
theorem qdT (b2 b3 sb so len cap n : Nat) (hn : 0 < n) (hl : len ≤ 1000000000) (hn2 : n ≤ 1000000) (hc : len ≤ cap) :
 Itr Try.prog 129 [ptr b2, ptr b3] 0 (chNx sb so len n) (fun i => len ≤ i ∧ i < len + n ∧ i % n = 0) (chH b2 b3 sb so len cap n) := by
 refine ⟨fun l α β R S W x0 hR hH hd hround => ?_⟩
 have hst : St [fun k => (R 0 x0).w k] W W [rs (R 0 x0), cr b2 #[.slice (some ⟨sb, so, none⟩) len cap] 22, cr b3 #[.int .i64 n] 3] := by
  refine St.from W _ _ (fun e he => ?_) ?_
  · simp only [List.mem_cons, List.not_mem_nil, or_false] at he
    rcases he with rfl | rfl | rfl
    · exact ⟨by simpa using hR, fun k hk => by simpa using hk⟩
    · exact ⟨by simpa using hH.1, fun k hk => by simp at hk⟩
    · exact ⟨by simpa using hH.2, fun k hk => by simp at hk⟩
  · refine .cons (fun y hy => ?_) (.cons (fun y hy => ?_) (by simp))
    · simp only [List.mem_cons, List.not_mem_nil, or_false] at hy
      rcases hy with rfl | rfl
      · exact fun k => ⟨fun h1 h2 => by simp at h1 h2; subst h2; exact hd _ (.inr (.inl rfl)) h1, fun h1 => by simp at h1⟩
      · exact fun k => ⟨fun h1 h2 => by simp at h1 h2; subst h2; exact hd _ (.inr (.inr rfl)) h1, fun h1 => by simp at h1⟩
    · obtain rfl : y = cr b3 #[.int .i64 n] 3 := by simpa using hy
      exact fun k => ⟨fun h1 => by simp at h1, fun h1 => by simp at h1⟩
 refine (enter qi Try.func129 rfl Try.ntmps129 rfl hst (R := fun v w' => (∃ i y, (len ≤ i ∧ i < len + n ∧ i % n = 0) ∧ Turns W w' (R 0 x0) (R i y)) ∨ ∃ y, Turns W w' (R 0 x0) (S y)) ?_).mono (fun e w' ⟨v, he, h⟩ => ⟨⟨v, he⟩, h⟩)
 have fin' : ∀ (r : Res) (L : List Ent) (w' : World), St [fun k => (R 0 x0).w k] W w' L → L[0]? = some (rs r) → (∀ k, r.A k → (R 0 x0).A k ∨ W.heap.size ≤ k) → Turns W w' (R 0 x0) r := by
  intro r L w' hs h0 hA
  refine Turns.of_st hs (fun k hk => by simpa using hk) (hs.res h0) (fun k hk => ?_) hA
  rcases hs.ownW _ (List.mem_of_getElem? h0) k (by simpa using hk) with h | h
  · exact .inr h
  · exact .inl (by simpa using h)
 refine lp qi (fun x : Nat × α => (x.1 < len + n ∧ x.1 % n = 0) ∧ ∀ k, (R x.1 x.2).A k → (R 0 x0).A k ∨ W.heap.size ≤ k)
  (fun x => ⟨[(0, .func (.yield l) #[] #[]), (1, ptr b2), (2, ptr b3), (4, .int .i64 x.1)], [rs (R x.1 x.2), cr b2 #[.slice (some ⟨sb, so, none⟩) len cap] 22, cr b3 #[.int .i64 n] 3], []⟩) (fun x => len + n - x.1) (0, x0) ⟨⟨by simp only; omega, Nat.zero_mod _⟩, fun k hk => .inl hk⟩
  ⟨⟨rfl, rfl, rfl, rfl, trivial⟩, .cons (.cons (.cons .nil)), rfl⟩ ?_
 rintro ⟨i, x⟩ ⟨⟨hi, hm⟩, hA⟩
 simp only at hi hm hA
 refine ld1 1 rfl (v := .slice (some ⟨sb, so, none⟩) len cap) rfl ?_
 refine cd (fun h => ?_) (fun h => ?_)
 · have hlt : i < len := by omega
   refine dr [rs (R i x), cr b2 #[.slice (some ⟨sb, so, none⟩) len cap] 22, cr b3 #[.int .i64 n] 3] 99 (.t 0 (.t 1 (.t 2 (.t 3 (.t 4 (.n 5 (.t 6 .nil))))))) qi qq (by kernel_rfl) (.cons (.cons (.cons .nil))) ?_
   refine ld1 2 rfl (v := .int .i64 n) rfl ?_
   refine ld1 1 rfl (v := .slice (some ⟨sb, so, none⟩) len cap) rfl ?_
   refine ⟨.mk i len cap rfl rfl rfl (by omega) hc (Nat.le_refl _) (by simp) (.on (by omega) ?_)⟩
   rw [qK, qI, Nat.mul_one]
   refine biMin ?_
   have he : min (n : Int) ((len - i : Nat) : Int) = ((min n (len - i) : Nat) : Int) := by omega
   rw [he]
   refine ⟨.cons (.cons (.cons .nil)), ?_⟩
   refine ld1 1 rfl (v := .slice (some ⟨sb, so, none⟩) len cap) rfl ?_
   refine .as ((i + min n (len - i) : Nat) : Int) (by simp only; omega) (by simp only [mn]; omega) (by simp only [mx]; omega) ?_
   refine .as ((i + min n (len - i) : Nat) : Int) (by simp only; omega) (by simp only [mn]; omega) (by simp only [mx]; omega) ?_
   refine ⟨.mk i (i + min n (len - i)) (i + min n (len - i)) rfl rfl rfl (by omega) (Nat.le_refl _) (by omega) (by simp) (.on (by omega) ?_)⟩
   rw [qK, qI, Nat.mul_one, Nat.add_sub_cancel_left]
   refine yd (α := α) (β := β) (R := R) (S := S) (nx := chNx sb so len n) (i := i) (j := i + n) (x := x) 0 rfl hround ⟨hlt, hm, rfl, rfl⟩ (fun y hA2 => ?_) (fun y hA2 => ?_)
   · refine cf rfl ?_
     refine ld1 2 rfl (v := .int .i64 n) rfl ?_
     refine .as ((i + n : Nat) : Int) (by simp only; omega) (by simp only [mn]; omega) (by simp only [mx]; omega) ?_
     refine ⟨(i + n, y), ⟨⟨by simp only; omega, by simp only; rw [Nat.add_mod_right]; exact hm⟩, fun k hk => ?_⟩, by simp only; omega, ⟨⟨rfl, rfl, rfl, rfl, trivial⟩, .cons (.cons (.cons .nil)), rfl⟩⟩
     rcases hA2 k hk with h | h
     · exact hA k h
     · exact .inr h
   · refine ct rfl ?_
     refine ⟨fun w1 hs => .inr ⟨y, fin' _ _ _ hs rfl fun k hk => ?_⟩⟩
     rcases hA2 k hk with h | h
     · exact hA k h
     · exact .inr h
 · refine ⟨fun w1 hs => .inl ⟨i, x, ⟨by omega, hi, hm⟩, fin' _ _ _ hs rfl hA⟩⟩
end
section
open Go.RowKit Go.Sx
theorem mixv_w (x : Wd) (a b c : Nat) (s : Bool) (ha : a ≤ 64) (hb : b ≤ 64) (hc : c ≤ 64) : mixv (ux x) a b c s = ux (qbb x a b c s) := by
 unfold mixv qbb
 rw [trn_w x a ha _ rfl, trn_w x b hb _ rfl, qam, trn_w x c hc _ rfl, qcz x c hc _ rfl]
 cases s <;> exact qam _ _
def qR (ws : List Wd) (n : Nat) : Array Value := (ws.map uv ++ List.replicate n (Value.int .u64 0)).toArray
theorem qal (ws : List Wd) (n i : Nat) (h : i < ws.length) : (qR ws n)[i]? = some (uv (ws.getD i 0)) := by
 unfold qR
 rw [List.getElem?_toArray, List.getElem?_append_left (by simpa using h)]
 simp [h]
theorem tb_at (ws : List Wd) (i : Nat) (h : i < ws.length) : (ws.map uv).toArray[i]? = some (uv (ws.getD i 0)) := by
 simp [h]
theorem Zd {α : Type} (x : α) (A B : List α) (h : A.length = B.length) (i : Nat) (hi : i < A.length) (hx : A[i]? = some x) : (A.take i ++ B.drop i).set i x = A.take (i + 1) ++ B.drop (i + 1) := by
 have hb : i < B.length := by omega
 rw [List.set_append_right _ _ (by simp; omega), List.length_take, Nat.min_eq_left (by omega), Nat.sub_self, List.drop_eq_getElem_cons hb, List.set_cons_zero, List.take_add_one, hx]
 simp
theorem get_step {α : Type} (A B : List α) (i : Nat) (hi : i ≤ A.length) : (A.take i ++ B.drop i)[i]? = B[i]? := by
 rw [List.getElem?_append_right (by simp; omega), List.length_take, Nat.min_eq_left hi, Nat.sub_self, List.getElem?_drop]; simp
theorem qa4 (s : H8) (i : Nat) (h : i < 8) : (s.l.map uv).toArray[i]? = some (uv (s.l.getD i 0)) := tb_at _ _ h
theorem add_at (s r : H8) (i : Nat) (h : i < 8) : (s.add r).l.getD i 0 = s.l.getD i 0 + r.l.getD i 0 := by
 match i, h with
 | 0, _ => rfl | 1, _ => rfl | 2, _ => rfl | 3, _ => rfl | 4, _ => rfl | 5, _ => rfl | 6, _ => rfl | 7, _ => rfl
theorem mix_w (b tb : Nat) (k : Int) (n1 n2 n3 : Nat) (f : Bool) (h1 : n1 ≤ 64) (h2 : n2 ≤ 64) (h3 : n3 ≤ 64)
 (h : ∀ (x : Int) (w : World), w.heap[b]? = some (.cells (shp tb) 154 (0, 0)) → Calls Try.prog 130 ([.pointer (some ⟨b, 0, none⟩), .int .u64 x, .int .i64 k] : List Value).toArray w fun e w' => e = .returned (.int .u64 (mixv x n1 n2 n3 f)) ∧ Below w.heap.size w w') (x : Wd) (w : World) (hw : w.heap[b]? = some (.cells (shp tb) 154 (0, 0))) :
 Calls Try.prog 130 ([ptr b, uv x, .int .i64 k] : List Value).toArray w fun e w' => e = .returned (uv (qbb x n1 n2 n3 f)) ∧ Below w.heap.size w w' := by
 rw [uv, uv, ← mixv_w x n1 n2 n3 f h1 h2 h3]; exact h (ux x) w hw
theorem Zo : (Try.prog.info? 34).map (fun i => (i.zero, i.size, i.bytes)) = some (some (.int .u64 0), 1, 8) := by kernel_rfl
theorem und94 : Try.prog.underlying 94 = some (.slice 34) := by kernel_rfl
theorem bs34 (x : Int) (w : World) : (Instr.buildSlice 94 1 #[(0, .int .u64 x)]).run Try.prog w = .ok (.slice (some ⟨w.heap.size, 0, none⟩) 1 1) (w.alloc (.cells #[.int .u64 x] 34)) := by
 obtain ⟨i, hi, hz, hs, hb⟩ := zm Zo
 exact run_buildSlice w _ _ 1 _ #[.int .u64 x] i (.int .u64 0) und94 hi hz (by rw [hs]; decide) (by rw [hs]; decide) (by rw [hs]; kernel_rfl)
theorem qcy (p : List UInt8) (hp : p.length = 128) (k : Nat) (hk : k < 16) : (Qd p).take (k + 1) = (Qd p).take k ++ [be ((p.drop (8 * k)).take 8)] := by
 unfold Qd
 rw [List.take_add_one]
 simp [hk]
theorem chunk_at (p : List UInt8) (hp : p.length = 128) (i j : Nat) (hi : i + 8 ≤ 128) (hj : j < 8) : ((p.drop i).take 8).take (j + 1) = ((p.drop i).take 8).take j ++ [p.getD (i + j) 0] := by
 rw [List.take_add_one]
 congr 1
 have : i + j < p.length := by omega
 simp [hj, List.getElem?_drop, this, List.getD]
theorem piece_any (b tb pb po cap : Nat) (c : Array Value) (s : H8) (p : List UInt8) (hp : p.length = 128) (hcp : ∀ i, i < 128 → c[po + i]? = some (.int .u8 (p.getD i 0).toNat)) (hcap : 128 ≤ cap) (w : World)
 (hw : w.heap[b]? = some (.cells (shp tb) 154 (0, 0))) (ht : w.heap[tb]? = some (.cells (ktab.map uv).toArray 34 (0, 0))) (hpb : w.heap[pb]? = some (.cells c 5 (0, 0))) :
 Calls Try.prog 128 ([ptr b, .agg (s.l.map uv).toArray, .slice (some ⟨pb, po, none⟩) 128 cap] : List Value).toArray w fun e w' => e = .returned (.agg ((qcR s p).l.map uv).toArray) ∧ Below w.heap.size w w' := by
 have hmk := fun w => made1 (P := Try.prog) w und94 Zo rfl 0 80 (by decide) (by decide) (by decide)
 refine q9 qi Try.func128 rfl Try.ntmps128 rfl (St.reads (L := [cr b (shp tb) 154, cr tb (ktab.map uv).toArray 34, cr pb c 5]) (by simp [hw, ht, hpb])) ?_
 intro b4 b6
 refine ld1 0 rfl (v := .int .i64 64) rfl ?_
 refine ⟨by decide, by decide, by decide, ?_⟩
 refine ld1 0 rfl (v := .slice (some ⟨tb, 0, none⟩) 80 80) rfl ?_
 refine .mk 0 80 _ _ hmk fun wb => ?_
 intro b8
 refine s1 6 rfl (show 0 < 1 by decide) ?_
 refine inl (C := ⟨Try.prog, tab, 194, [], w, none⟩) qi Try.func127 rfl Try.ntmps127 rfl ?_
 intro b2 b3
 refine ld1 8 rfl (v := .int .i64 8) rfl ?_
 refine cf rfl ?_
 refine bk ?_
 have hL : List.Perm ([cr b (shp tb) 154, cr tb (ktab.map uv).toArray 34, cr pb c 5, cl b4 (s.l.map uv).toArray 96, cl b6 (List.replicate 8 (Value.int .u64 0)).toArray 96, cl b2 #[.slice (some ⟨pb, po, none⟩) 128 cap] 22, cl b3 #[.int .i64 8] 3] ++ [cl wb (qR [] 80) 34, cl b8 #[.slice (some ⟨wb, 0, none⟩) 0 80] 94]) [cr b (shp tb) 154, cr tb (ktab.map uv).toArray 34, cr pb c 5, cl b4 (s.l.map uv).toArray 96, cl b6 (List.replicate 8 (Value.int .u64 0)).toArray 96, cl wb (qR [] 80) 34, cl b8 #[.slice (some ⟨wb, 0, none⟩) 0 80] 94, cl b2 #[.slice (some ⟨pb, po, none⟩) 128 cap] 22, cl b3 #[.int .i64 8] 3] := .append_left [_, _, _, _, _] (List.perm_append_comm (l₁ := [_, _]) (l₂ := [_, _]))
 refine rfm (C := ⟨Try.prog, tab, 194, [], w, none⟩) (L0 := [cr b (shp tb) 154, cr tb (ktab.map uv).toArray 34, cr pb c 5, cl b4 (s.l.map uv).toArray 96, cl b6 (List.replicate 8 (Value.int .u64 0)).toArray 96, cl b2 #[.slice (some ⟨pb, po, none⟩) 128 cap] 22, cl b3 #[.int .i64 8] 3]) (α := Unit) (β := Empty) qi rfl rfl rfl
  (qdT b2 b3 pb po 128 cap 8 (by decide) (by decide) (by decide) hcap) (fun i _ => [cl wb (qR ((Qd p).take (i / 8)) (80 - i / 8)) 34, cl b8 #[.slice (some ⟨wb, 0, none⟩) (i / 8) 80] 94]) (fun y => y.elim) (fun y => y.elim) () ?_
  (fun w' hs => ⟨⟨hs.nth (k := 5) rfl, hs.nth (k := 6) rfl⟩, ?_⟩) ?_ ?_ ?_ (fun y => y.elim)
 · refine List.Perm.trans ?_ (List.Perm.trans hL ?_)
   · exact .of_eq rfl
   · exact .of_eq rfl
 · rintro k (hk | rfl | rfl) e he hw
   · exact hk.elim
   · simp only [List.mem_cons, List.not_mem_nil, or_false] at he
     rcases he with rfl | rfl
     · exact (qbs hs.apart (i := 7) (j := 5) rfl rfl (by decide) _).1 hw (by simp)
     · exact (qbs hs.apart (i := 8) (j := 5) rfl rfl (by decide) _).1 hw (by simp)
   · simp only [List.mem_cons, List.not_mem_nil, or_false] at he
     rcases he with rfl | rfl
     · exact (qbs hs.apart (i := 7) (j := 6) rfl rfl (by decide) _).1 hw (by simp)
     · exact (qbs hs.apart (i := 8) (j := 6) rfl rfl (by decide) _).1 hw (by simp)
 · rintro i args j ⟨_, _, rfl, _⟩; rfl
 · rintro l i args j x w' ready busy ⟨hi, him, rfl, rfl⟩
   have hwt := qcy p hp (i / 8) (by omega)
   have h8i : 8 * (i / 8) = i := by omega
   rw [h8i] at hwt
   have hj8 : (i + 8) / 8 = i / 8 + 1 := by omega
   have hch := fun j hj => chunk_at p hp i j (by omega) hj
   have hcv : chV pb po 128 8 i = .slice (some ⟨pb, po + i, none⟩) 8 8 := by unfold chV; rw [show min 8 (128 - i) = 8 by omega]
   rw [hcv]
   refine ⟨rfl, ?_⟩
   refine lp qi (fun j : Nat => j ≤ 8) (fun j => ⟨[(8, ptr b8), (9, .slice (some ⟨pb, po + i, none⟩) 8 8), (10, uv (be (((p.drop i).take 8).take j))), (43, .slice (some ⟨pb, po + i, none⟩) 8 8), (44, .int .i64 8), (45, .int .i64 j)],
    [dead, dead, ⟨pb, some (.cells c 5 (0, 0)), true, none⟩, dead, dead, dead, dead, cl wb (qR ((Qd p).take (i / 8)) (80 - i / 8)) 34, cl b8 #[.slice (some ⟨wb, 0, none⟩) (i / 8) 80] 94, ⟨l, some busy, false, none⟩], []⟩) (fun j => 8 - j) 0 (Nat.zero_le _)
    ⟨⟨rfl, rfl, rfl, rfl, rfl, rfl, trivial⟩, .dead (.dead (.cons (.dead (.dead (.dead (.dead (.cons (.cons (.cons .nil))))))))), rfl⟩ ?_
   intro j hj
   refine cd (fun h => ?_) (fun h => ?_)
   · have hjl : j < 8 := by omega
     refine ⟨by omega, by omega, ?_⟩
     refine ld1 2 rfl (v := .int .u8 (p.getD (i + j) 0).toNat) (by rw [qK, qI, ← hcp (i + j) (by omega)]; congr 1; simp; omega) ?_
     have hb := (p.getD (i + j) 0).toNat_lt
     refine ⟨by decide, .to (ux (be (((p.drop i).take 8).take j) <<< 8)) (u_shl _ 8 (by decide) _ rfl) ?_⟩
     refine .same (by simp only [mn]; omega) (by simp only [mx]; omega) ?_
     refine .same (by simp only [mn]; omega) (by simp only [mx]; omega) ?_
     refine ⟨j + 1, by omega, by omega, ⟨⟨rfl, rfl, congrArg (fun x => some (Value.int .u64 x)) (a₁ := Zt .or .u64 (ux (be (((p.drop i).take 8).take j) <<< 8)) ((p.getD (i + j) 0).toNat : Int)) ?_, rfl, rfl, rfl, trivial⟩, .refl _, rfl⟩⟩
     rw [hch j hjl, be_snoc]
     exact (by rw [← ux_byte, u_or]; rfl)
   · obtain rfl : j = 8 := by omega
     rw [List.take_take, Nat.min_self]
     refine ld1 8 rfl (v := .slice (some ⟨wb, 0, none⟩) (i / 8) 80) rfl ?_
     refine .mk #[uv (be ((p.drop i).take 8))] 34 (fun w => bs34 _ w) (fun bn => ?_)
     have hwl : ((Qd p).take (i / 8)).length = i / 8 := by rw [List.length_take, show (Qd p).length = 16 by simp [Qd]]; omega
     refine apI1 (xs := ((Qd p).take (i / 8)).map uv) (j := List.replicate (80 - i / 8) (Value.int .u64 0)) 7 10 qi rfl Zo rfl (by rw [List.length_map, hwl]) (by rw [List.length_append, List.length_map, hwl, List.length_replicate]; omega) (by omega) rfl rfl ?_
     refine s1 8 rfl (show 0 < 1 by decide) ?_
     have hE : qR ((Qd p).take ((i + 8) / 8)) (80 - (i + 8) / 8) = (((Qd p).take (i / 8)).map uv ++ [uv (be ((p.drop i).take 8))] ++ (List.replicate (80 - i / 8) (Value.int .u64 0)).drop 1).toArray := by
      rw [hj8, hwt, qR, List.map_append, List.drop_replicate, show 80 - (i / 8 + 1) = 80 - i / 8 - 1 by omega]; rfl
     refine ⟨(), ?_, fun e he k hk => .inl ?_⟩
     · show Sub ([cl wb (qR ((Qd p).take ((i + 8) / 8)) (80 - (i + 8) / 8)) 34, cl b8 #[.slice (some ⟨wb, 0, none⟩) ((i + 8) / 8) 80] 94] ++ [_]) _
       rw [hE, hj8]
       exact .drop (.drop (.drop (.drop (.drop (.drop (.drop (.cons (.cons (.cons .nil)))))))))
     · simp only [List.mem_cons, List.not_mem_nil, or_false] at he
       rcases he with rfl | rfl
       · exact ⟨_, List.mem_cons_self, by simpa using hk⟩
       · exact ⟨_, List.mem_cons_of_mem _ List.mem_cons_self, by simpa using hk⟩
 · intro i y b0 hfin
   obtain ⟨h1, h2, h3⟩ := hfin
   obtain rfl : i = 128 := by omega
   have hm0 := mix_w b tb 0 28 34 39 false (by decide) (by decide) (by decide) (fun x w h => mix0_any b tb x w h)
   have hm1 := mix_w b tb 1 14 18 41 false (by decide) (by decide) (by decide) (fun x w h => mix1_any b tb x w h)
   have hm2 := mix_w b tb 2 1 8 7 true (by decide) (by decide) (by decide) (fun x w h => mix2_any b tb x w h)
   have hm3 := mix_w b tb 3 19 61 6 true (by decide) (by decide) (by decide) (fun x w h => mix3_any b tb x w h)
   have hwl : (Qd p).length = 16 := by simp [Qd]
   have hgl := fun k => qb2 k (Qd p)
   rw [hwl] at hgl
   have ht16 : (Qd p).take (128 / 8) = Qd p := List.take_of_length_le (by omega)
   rw [ht16]
   refine lp qi (fun k : Nat => k ≤ 64) (fun k => ⟨[(0, ptr b), (4, ptr b4), (6, ptr b6), (8, ptr b8), (13, .int .i64 (16 + k : Nat))],
    [cr b (shp tb) 154, cr tb (ktab.map uv).toArray 34, cl b4 (s.l.map uv).toArray 96, cl b6 (List.replicate 8 (Value.int .u64 0)).toArray 96, cl wb (qR (QQ k (Qd p)) (64 - k)) 34, cl b8 #[.slice (some ⟨wb, 0, none⟩) (16 + k) 80] 94, dfe b0], [{ target := .collected b0, args := #[] }]⟩) (fun k => 64 - k) 0 (Nat.zero_le _)
    ⟨⟨rfl, rfl, rfl, rfl, rfl, trivial⟩, .cons (.cons (.drop (.cons (.cons (.drop (.drop (.cons (.cons (.cons .nil))))))))), rfl⟩ ?_
   intro k hk
   have hgk := hgl k
   refine ld1 0 rfl (v := .slice (some ⟨tb, 0, none⟩) 80 80) rfl ?_
   refine cd (fun h => ?_) (fun h => ?_)
   · have hlt : k < 64 := by omega
     refine drs [cr b (shp tb) 154, cr tb (ktab.map uv).toArray 34, cl b4 (s.l.map uv).toArray 96, cl b6 (List.replicate 8 (Value.int .u64 0)).toArray 96, cl wb (qR (QQ k (Qd p)) (64 - k)) 34, cl b8 #[.slice (some ⟨wb, 0, none⟩) (16 + k) 80] 94] [29, 30] (.t 0 (.t 1 (.t 2 (.t 3 (.t 4 (.t 5 (.t 6 (.t 7 (.t 8 (.t 9 (.t 10 (.t 11 (.t 12 (.t 13 (.t 14 (.t 15 (.t 16 (.t 17 (.t 18 (.t 19 (.t 20 (.t 21 (.t 22 (.t 23 (.t 24 (.t 25 (.t 26 (.t 27 (.n 28 (.n 29 (.n 30 .nil))))))))))))))))))))))))))))))) qi qq (by kernel_rfl) (.cons (.cons (.cons (.cons (.cons (.cons .nil)))))) ?_
     refine ld1 5 rfl (v := .slice (some ⟨wb, 0, none⟩) (16 + k) 80) rfl ?_
     refine ld1 5 rfl (v := .slice (some ⟨wb, 0, none⟩) (16 + k) 80) rfl ?_
     refine .as ((16 + k - 2 : Nat) : Int) (by omega) (by simp only [mn]; omega) (by simp only [mx]; omega) ?_
     refine ⟨by omega, by omega, ?_⟩
     refine ld1 4 rfl (v := uv ((QQ k (Qd p)).getD (16 + k - 2) 0)) (by rw [qK, qI, Nat.zero_add, Nat.mul_one, Int.toNat_natCast]; exact qal _ _ _ (by omega)) ?_
     refine czs (fun w hs => hm3 _ w (hs.nth (k := 0) rfl)) ?_
     refine ld1 5 rfl (v := .slice (some ⟨wb, 0, none⟩) (16 + k) 80) rfl ?_
     refine .as ((16 + k - 7 : Nat) : Int) (by omega) (by simp only [mn]; omega) (by simp only [mx]; omega) ?_
     refine ⟨by omega, by omega, ?_⟩
     refine ld1 4 rfl (v := uv ((QQ k (Qd p)).getD (16 + k - 7) 0)) (by rw [qK, qI, Nat.zero_add, Nat.mul_one, Int.toNat_natCast]; exact qal _ _ _ (by omega)) ?_
     refine .to _ (QM _ _) ?_
     refine ld1 5 rfl (v := .slice (some ⟨wb, 0, none⟩) (16 + k) 80) rfl ?_
     refine .as ((16 + k - 15 : Nat) : Int) (by omega) (by simp only [mn]; omega) (by simp only [mx]; omega) ?_
     refine ⟨by omega, by omega, ?_⟩
     refine ld1 4 rfl (v := uv ((QQ k (Qd p)).getD (16 + k - 15) 0)) (by rw [qK, qI, Nat.zero_add, Nat.mul_one, Int.toNat_natCast]; exact qal _ _ _ (by omega)) ?_
     refine czs (fun w hs => hm2 _ w (hs.nth (k := 0) rfl)) ?_
     refine .to _ (QM _ _) ?_
     refine ld1 5 rfl (v := .slice (some ⟨wb, 0, none⟩) (16 + k) 80) rfl ?_
     refine .as ((16 + k - 16 : Nat) : Int) (by omega) (by simp only [mn]; omega) (by simp only [mx]; omega) ?_
     refine ⟨by omega, by omega, ?_⟩
     refine ld1 4 rfl (v := uv ((QQ k (Qd p)).getD (16 + k - 16) 0)) (by rw [qK, qI, Nat.zero_add, Nat.mul_one, Int.toNat_natCast]; exact qal _ _ _ (by omega)) ?_
     refine .to _ (QM _ _) ?_
     refine .mk #[uv (qby (QQ k (Qd p)))] 34 (fun w => ?_) (fun bn => ?_)
     · unfold qby; rw [hgk]; exact bs34 _ w
     refine ⟨.cons (.cons (.cons (.cons (.cons (.cons .nil))))), ?_⟩
     refine apI1 (xs := (QQ k (Qd p)).map uv) (j := List.replicate (64 - k) (Value.int .u64 0)) 4 7 qi rfl Zo rfl (by rw [List.length_map, hgk]) (by rw [List.length_append, List.length_map, hgk, List.length_replicate]; omega) (by omega) rfl rfl ?_
     refine s1 5 rfl (show 0 < 1 by decide) ?_
     refine .as ((16 + (k + 1) : Nat) : Int) (by omega) (by simp only [mn]; omega) (by simp only [mx]; omega) ?_
     have hE : qR (QQ (k + 1) (Qd p)) (64 - (k + 1)) = ((QQ k (Qd p)).map uv ++ [uv (qby (QQ k (Qd p)))] ++ (List.replicate (64 - k) (Value.int .u64 0)).drop 1).toArray := by
      rw [QQ, qR, List.map_append, List.drop_replicate, show 64 - (k + 1) = 64 - k - 1 by omega]; rfl
     refine ⟨k + 1, by omega, by omega, ?_⟩
     rw [hE]
     exact ⟨⟨rfl, rfl, rfl, rfl, rfl, trivial⟩, .cons (.cons (.cons (.cons (.cons (.cons (.cons .nil)))))), rfl⟩
   · obtain rfl : k = 64 := by omega
     generalize hws : QQ 64 (Qd p) = ws at *
     refine drs [dead, dead, cl b4 (s.l.map uv).toArray 96] [] (.t 0 (.t 1 (.t 2 (.t 3 (.t 4 (.t 5 (.t 6 (.t 7 (.t 8 (.t 9 (.t 10 (.t 11 (.t 12 (.t 13 (.t 14 (.t 15 (.t 16 (.t 17 (.t 18 (.t 19 (.t 20 (.t 21 (.t 22 (.t 23 .nil)))))))))))))))))))))))) qi qq (by kernel_rfl) (.dead (.dead (.cons .nil))) ?_
     refine ⟨by decide, by decide, ld1 2 rfl (v := uv s.a) rfl ?_⟩
     refine ⟨by decide, by decide, ld1 2 rfl (v := uv s.b) rfl ?_⟩
     refine ⟨by decide, by decide, ld1 2 rfl (v := uv s.c) rfl ?_⟩
     refine ⟨by decide, by decide, ld1 2 rfl (v := uv s.d) rfl ?_⟩
     refine ⟨by decide, by decide, ld1 2 rfl (v := uv s.e) rfl ?_⟩
     refine ⟨by decide, by decide, ld1 2 rfl (v := uv s.f) rfl ?_⟩
     refine ⟨by decide, by decide, ld1 2 rfl (v := uv s.g) rfl ?_⟩
     refine ⟨by decide, by decide, ld1 2 rfl (v := uv s.h) rfl ?_⟩
     refine ld1 0 rfl (v := .slice (some ⟨tb, 0, none⟩) 80 80) rfl ?_
     refine lp qi (fun t : Nat => t ≤ 80) (fun t => ⟨[(0, ptr b), (4, ptr b4), (6, ptr b6), (8, ptr b8), (14, uv (ZJ ktab ws s t).a), (15, uv (ZJ ktab ws s t).b), (16, uv (ZJ ktab ws s t).c), (17, uv (ZJ ktab ws s t).d), (18, uv (ZJ ktab ws s t).e), (19, uv (ZJ ktab ws s t).f), (20, uv (ZJ ktab ws s t).g), (21, uv (ZJ ktab ws s t).h),
      (117, .slice (some ⟨tb, 0, none⟩) 80 80), (118, .int .i64 80), (119, .int .i64 t)],
      [cr b (shp tb) 154, cr tb (ktab.map uv).toArray 34, cl b4 (s.l.map uv).toArray 96, cl b6 (List.replicate 8 (Value.int .u64 0)).toArray 96, cl wb (qR ws 0) 34, cl b8 #[.slice (some ⟨wb, 0, none⟩) 80 80] 94, dfe b0], [{ target := .collected b0, args := #[] }]⟩) (fun t => 80 - t) 0 (Nat.zero_le _)
      ⟨⟨rfl, rfl, rfl, rfl, rfl, rfl, rfl, rfl, rfl, rfl, rfl, rfl, rfl, rfl, rfl, trivial⟩, .refl _, rfl⟩ ?_
     intro t ht
     refine cd (fun h => ?_) (fun h => ?_)
     · have hlt : t < 80 := by omega
       refine ⟨by omega, by omega, ?_⟩
       refine ld1 1 rfl (v := uv (ktab.getD t 0)) (by rw [qK, qI, Nat.zero_add, Nat.mul_one, Int.toNat_natCast]; exact tb_at _ _ (by rw [ktab_len]; omega)) ?_
       have hst : ZJ ktab ws s (t + 1) = rnd (ZJ ktab ws s t) (ktab.getD t 0) (ws.getD t 0) := rfl
       generalize ZJ ktab ws s t = st at *
       refine drs [cr b (shp tb) 154, dead, dead, dead, cl wb (qR ws 0) 34, cl b8 #[.slice (some ⟨wb, 0, none⟩) 80 80] 94] [] (.t 0 (.t 1 (.t 2 (.t 3 (.t 4 (.t 5 (.t 6 (.t 7 (.t 8 (.t 9 (.t 10 (.t 11 (.t 12 (.t 13 (.t 14 (.t 15 (.t 16 (.t 17 (.t 18 (.t 19 (.t 20 (.t 21 .nil)))))))))))))))))))))) qi qq (by kernel_rfl) (.cons (.dead (.dead (.dead (.cons (.cons .nil)))))) ?_
       refine czs (fun w hs => hm1 _ w (hs.nth (k := 0) rfl)) ?_
       refine .to _ (QM _ _) ?_
       refine .to (ux (st.h + qbb st.e 14 18 41 false + (st.e &&& st.f ||| ~~~st.e &&& st.g))) (by rw [u_not, qaZ, qaZ, u_or]; exact QM _ _) ?_
       refine .to _ (QM _ _) ?_
       refine ld1 5 rfl (v := .slice (some ⟨wb, 0, none⟩) 80 80) rfl ?_
       refine ⟨by omega, by omega, ?_⟩
       refine ld1 4 rfl (v := uv (ws.getD t 0)) (by rw [qK, qI, Nat.zero_add, Nat.mul_one, Int.toNat_natCast]; exact qal _ _ _ (by omega)) ?_
       refine .to _ (QM _ _) ?_
       refine cvs (fun w hs => hm0 _ w (hs.nth (k := 0) rfl)) ?_
       refine .to (ux (qbb st.a 28 34 39 false + (st.a &&& st.b ||| st.a &&& st.c ||| st.b &&& st.c))) (by rw [qaZ, qaZ, qaZ, u_or, u_or]; exact QM _ _) ?_
       refine .to _ (QM _ _) ?_
       refine .to _ (QM _ _) ?_
       refine .as ((t + 1 : Nat) : Int) (by omega) (by simp only [mn]; omega) (by simp only [mx]; omega) ?_
       refine ⟨t + 1, by omega, by omega, ?_⟩
       simp only [hst]
       exact ⟨⟨rfl, rfl, rfl, rfl, rfl, rfl, rfl, rfl, rfl, rfl, rfl, rfl, rfl, rfl, rfl, trivial⟩, .refl _, rfl⟩
     · obtain rfl : t = 80 := by omega
       obtain ⟨r, hr⟩ : ∃ r, r = ZJ ktab ws s 80 := ⟨_, rfl⟩
       have hpc : qcR s p = s.add r := by unfold qcR; rw [hws, ← hr]
       rw [hpc]
       simp only [← hr]
       refine bu (c := (r.l.map uv).toArray) (by kernel_rfl) ?_
       refine lp qi (fun i : Nat => i ≤ 8) (fun i => ⟨[(0, ptr b), (4, ptr b4), (6, ptr b6), (181, .agg (r.l.map uv).toArray), (182, .int .i64 i)],
        [dead, dead, cl b4 (((s.add r).l.map uv).take i ++ (s.l.map uv).drop i).toArray 96, cl b6 (List.replicate 8 (Value.int .u64 0)).toArray 96, dead, dead, dfe b0], [{ target := .collected b0, args := #[] }]⟩) (fun i => 8 - i) 0 (Nat.zero_le _)
        ⟨⟨rfl, rfl, rfl, rfl, rfl, trivial⟩, .dead (.dead (.cons (.cons (.dead (.dead (.cons .nil)))))), rfl⟩ ?_
       intro i hi
       refine cd (fun h => ?_) (fun h => ?_)
       · have hlt : i < 8 := by omega
         refine ⟨by omega, by omega, .cell (uv (r.l.getD i 0)) rfl (by rw [qI, Nat.mul_one, Int.toNat_natCast]; exact qa4 r i hlt) ?_⟩
         refine ⟨by omega, by omega, ?_⟩
         refine ld1 2 rfl (v := uv (s.l.getD i 0)) (by rw [qK, qI, Nat.zero_add, Nat.mul_one, Int.toNat_natCast, List.getElem?_toArray, get_step _ _ _ (by simp [H8.l]; omega), ← List.getElem?_toArray]; exact qa4 s i hlt) ?_
         refine .to _ (QM _ _) ?_
         refine ⟨by omega, by omega, ?_⟩
         refine s1 2 rfl (by rw [qK, qI, Nat.zero_add, Nat.mul_one, Int.toNat_natCast]; simp [H8.l]; omega) ?_
         refine .as ((i + 1 : Nat) : Int) (by omega) (by simp only [mn]; omega) (by simp only [mx]; omega) ?_
         have hE : (((s.add r).l.map uv).take (i + 1) ++ (s.l.map uv).drop (i + 1)).toArray = (((s.add r).l.map uv).take i ++ (s.l.map uv).drop i).toArray.setIfInBounds (nad 0 (nmu (Int.toNat (i : Int)) 1)) (uv (s.l.getD i 0 + r.l.getD i 0)) := by
          rw [qK, qI, Nat.zero_add, Nat.mul_one, Int.toNat_natCast, List.setIfInBounds_toArray, ← add_at s r i hlt, Zd _ _ _ (by simp [H8.l]) i (by simp [H8.l]; omega) (by rw [← List.getElem?_toArray]; exact qa4 _ i hlt)]
         refine ⟨i + 1, by omega, by omega, ?_⟩
         rw [hE]
         exact ⟨⟨rfl, rfl, rfl, rfl, rfl, trivial⟩, .dead (.dead (.cons (.cons (.dead (.dead (.cons .nil)))))), rfl⟩
       · obtain rfl : i = 8 := by omega
         have hE : (((s.add r).l.map uv).take 8 ++ (s.l.map uv).drop 8).toArray = ((s.add r).l.map uv).toArray := rfl
         rw [hE]
         refine ldN 2 rfl rfl ?_
         refine sN 3 rfl rfl rfl ?_ (by kernel_rfl)
         refine .mk 6 rfl ?_
         refine ldN 3 rfl rfl ?_
         exact rt rfl
end
section
open Go.RowKit Go.Sx
theorem bs5 (x : Int) (w : World) : (Instr.buildSlice 22 1 #[(0, .int .u8 x)]).run Try.prog w = .ok (.slice (some ⟨w.heap.size, 0, none⟩) 1 1) (w.alloc (.cells #[.int .u8 x] 5)) := by
 obtain ⟨i, hi, hz, hs, hb⟩ := zm zp
 exact run_buildSlice w _ _ 1 _ #[.int .u8 x] i (.int .u8 0) (by kernel_rfl) hi hz (by rw [hs]; decide) (by rw [hs]; decide) (by rw [hs]; kernel_rfl)
theorem bc_one (b : UInt8) : Lib.byteCells [b] = [.int .u8 b.toNat] := rfl
theorem qaD (bs : List UInt8) (i : Nat) (h : i < bs.length) : (Lib.byteCells bs)[i]? = some (.int .u8 (bs.getD i 0).toNat) := by simp [Lib.byteCells, h]
theorem rep_snoc (k : Nat) : List.replicate (k + 1) (0 : UInt8) = List.replicate k 0 ++ [0] := List.replicate_succ'
theorem tail_snoc (n j : Nat) : (List.range (j + 1)).map (QE n) = (List.range j).map (QE n) ++ [QE n j] := by rw [List.range_succ, List.map_append]; rfl
theorem shrI (a i : Nat) (hi : i ≤ 64) (x : Int) (hx : x = i) : (a : Int).fdiv (2 ^ (min x.toNat IntKind.u64.bits)) = ((a / 2 ^ i : Nat) : Int) := by
 subst hx
 show (a : Int).fdiv (2 ^ (min ((i : Nat) : Int).toNat 64)) = _
 rw [Int.toNat_natCast, Nat.min_eq_left hi, Int.fdiv_eq_ediv_of_nonneg _ (by exact Int.le_of_lt (Int.pow_pos (by decide))), Int.natCast_ediv, Int.natCast_pow]; rfl
theorem qbM (n j : Nat) : (QE n j).toNat = 8 * n / 256 ^ (15 - j) % 256 := by
 unfold QE; rw [UInt8.toNat_ofNat']; omega
theorem qcA (n j : Nat) (hn : n ≤ 1000000) (hj : j ≤ 7) : QE n j = 0 := by
 unfold QE
 rw [Nat.div_eq_of_lt (Nat.lt_of_lt_of_le (show 8 * n < 256 ^ 8 by omega) (Nat.pow_le_pow_right (by decide) (by omega)))]; rfl
def ZP (bs : List UInt8) (j : Nat) : List UInt8 := bs ++ [128] ++ List.replicate (Qh bs.length) 0 ++ (List.range j).map (QE bs.length)
theorem qac (bs : List UInt8) (j : Nat) : Lib.byteCells (ZP bs (j + 1)) = Lib.byteCells (ZP bs j) ++ [.int .u8 (QE bs.length j).toNat] := by
 unfold ZP; rw [tail_snoc, ← List.append_assoc, Lib.byteCells_append]; rfl
theorem outW_snoc (x : Wd) (m : Nat) (h : m < 8) : (zD x).take (m + 1) = (zD x).take m ++ [UInt8.ofNat (x.toNat / 2 ^ (56 - 8 * m) % 256)] := by
 unfold zD
 rw [List.take_add_one]
 simp [h]
theorem qdF (x : Wd) (m : Nat) : modk .u8 (ux (x >>> (56 - 8 * m))) = ((UInt8.ofNat (x.toNat / 2 ^ (56 - 8 * m) % 256)).toNat : Int) := by
 rw [UInt8.toNat_ofNat']
 unfold ux
 rw [BitVec.toNat_ushiftRight, Nat.shiftRight_eq_div_pow]
 show ((_ : Nat) : Int) % 256 = _
 omega
theorem h8_size (s t : H8) : (s.l.map uv).toArray.size = (t.l.map uv).toArray.size := rfl
theorem h8_one (s : H8) : (s.l.map uv).toArray.toList.all (·.oneCell') = true := rfl
theorem h8_take (s : H8) (k : Nat) (hk : k < 8) : s.l.take (k + 1) = s.l.take k ++ [s.l.getD k 0] := by
 have : k < s.l.length := hk
 rw [List.take_add_one, List.getElem?_eq_getElem this]; simp [List.getD, this]
theorem qcB {n : Nat} {r : Sx.Own} {xs : List Value} (h : Rw 1 n r xs) : ∃ a c, sv r n = .slice a n c := by
 rcases r with _ | ⟨b, c, j⟩
 · obtain rfl : n = 0 := h.2; exact ⟨_, _, rfl⟩
 · exact ⟨_, _, rfl⟩
theorem digest_any (b tb pb po kc : Nat) (vs : List Value) (xss : List (List Value)) (bs : List UInt8) (hbs : xss.flatten = Lib.byteCells bs) (hlen : vs.length = xss.length) (w : World) (hpb : pb < w.heap.size) (hp : ∀ (i : Nat) (u : Value), vs[i]? = some u → w.cell? ⟨pb, po + i, none⟩ = some u)
 (hx : ∀ (i : Nat) (v : Value) (xs : List Value), vs[i]? = some v → xss[i]? = some xs → Rd w v xs) (hn : bs.length ≤ 1000000) (hk : xss.length ≤ 1000)
 (hw : w.heap[b]? = some (.cells (shp tb) 154 (0, 0))) (ht : w.heap[tb]? = some (.cells (ktab.map uv).toArray 34 (0, 0))) :
 Calls Try.prog 121 ([ptr b, .slice (some ⟨pb, po, none⟩) xss.length kc] : List Value).toArray w fun e w' => ∃ r, e = .returned (sv r 64) ∧ Rw 1 64 r (Lib.byteCells (zt bs)) ∧ qdl w w' r (Lib.byteCells (zt bs)) 5 ∧ Below w.heap.size w w' := by
 have hcc := fun w' (hs : Below w.heap.size w w') => qde pb po kc vs xss hlen w' (Nat.lt_of_lt_of_le hpb hs.size) (fun i u hu => (hs.cell (p := ⟨pb, po + i, none⟩) hpb).trans (hp i u hu)) (fun i v xs h1 h2 => (hx i v xs h1 h2).below hs)
  (fun xs hxs u hu => by
   have : u ∈ xss.flatten := List.mem_flatten.2 ⟨xs, hxs, hu⟩
   rw [hbs] at this
   simp only [Lib.byteCells, List.mem_map] at this
   obtain ⟨_, _, rfl⟩ := this; rfl) (by rw [hbs, Lib.byteCells_length]; omega) hk
 rw [hbs, Lib.byteCells_length] at hcc
 refine (enter qi Try.func121 rfl Try.ntmps121 rfl (St.reads (L := [cr b (shp tb) 154, cr tb (ktab.map uv).toArray 34]) (by simp [hw, ht])) (R := fun v w' => ∃ r, v = sv r 64 ∧ Rw 1 64 r (Lib.byteCells (zt bs)) ∧ qdl w w' r (Lib.byteCells (zt bs)) 5 ∧ Below w.heap.size w w') ?_).mono (fun e w' ⟨v, he, r, hv, h⟩ => ⟨r, by rw [he, hv], h⟩)
 intro b2
 refine co (fun w' hs => hcc w' hs.below) (fun r hr => ?_)
 obtain ⟨sa, sc, hsv⟩ := qcB hr
 rw [hsv]
 refine .same (by simp only [mn]; omega) (by simp only [mx]; omega) ?_
 rw [← hsv]
 refine ld1 2 rfl (v := ptr b) rfl ?_
 refine ld1 0 rfl (v := .int .i64 64) rfl ?_
 refine .as 1024 (by decide) (by decide) (by decide) ?_
 refine ⟨by decide, by decide, by decide, ?_⟩
 refine .mk #[.int .u8 128] 5 (fun w => bs5 _ w) (fun bn => ?_)
 refine ap1 (xs := Lib.byteCells bs) 3 4 qi rfl zp rfl rfl hr rfl rfl (by omega) (by unfold maxLen; omega) (fun r1 hr1 => ?_)
 refine lp qi (fun x : Nat × Sx.Own => x.1 ≤ Qh bs.length ∧ Rw 1 (bs.length + 1 + x.1) x.2 (Lib.byteCells (bs ++ [128] ++ List.replicate x.1 0)))
  (fun x => ⟨[(2, ptr b2), (5, sv x.2 (bs.length + 1 + x.1)), (6, .int .u64 bs.length), (7, .int .i64 128)], [cr b (shp tb) 154, cr tb (ktab.map uv).toArray 34, cl b2 #[ptr b] 148, se x.2 (Lib.byteCells (bs ++ [128] ++ List.replicate x.1 0)) 5], []⟩) (fun x => Qh bs.length - x.1) (0, r1)
  ⟨Nat.zero_le _, by simpa [Lib.byteCells_append, bc_one] using hr1⟩ ⟨⟨rfl, rfl, rfl, rfl, trivial⟩, ?_, rfl⟩ ?_
 · simp only [List.replicate_zero, List.append_nil, Lib.byteCells_append, bc_one]
   exact .cons (.cons (.cons (.cons .nil)))
 rintro ⟨k, r⟩ ⟨hk1, hR⟩
 simp only at hk1 hR
 rcases r with _ | ⟨rb, cap, jj⟩
 · have := hR.2; omega
 have hfl : Qh bs.length < 128 := by unfold Qh; omega
 refine drs [cr b (shp tb) 154, dead, cl b2 #[ptr b] 148] [] (.t 0 (.t 1 (.t 2 (.t 3 (.t 4 (.t 5 (.t 6 (.t 7 (.t 8 (.t 9 (.t 10 .nil))))))))))) qi qq (by kernel_rfl) (.cons (.dead (.cons .nil))) ?_
 refine ⟨by omega, by simp only [mx]; omega, by decide, ?_⟩
 refine ld1 2 rfl (v := ptr b) rfl ?_
 refine ld1 0 rfl (v := .int .i64 16) rfl ?_
 refine .as 112 (by decide) (by decide) (by decide) ?_
 refine cne (fun h => ?_) (fun h => ?_)
 · have hlt : k < Qh bs.length := by
    rcases Nat.lt_or_ge k (Qh bs.length) with h1 | h1
    · exact h1
    · exfalso; apply h; obtain rfl : k = Qh bs.length := by omega
      unfold Qh; omega
   refine .mk #[.int .u8 0] 5 (fun w => bs5 _ w) (fun bn => ?_)
   refine ap1 (r := some (rb, cap, jj)) (xs := Lib.byteCells (bs ++ [128] ++ List.replicate k 0)) 3 4 qi rfl zp rfl rfl hR rfl rfl (by omega) (by unfold maxLen; omega) (fun r2 hr2 => ?_)
   have e1 : Lib.byteCells (bs ++ [128] ++ List.replicate (k + 1) 0) = Lib.byteCells (bs ++ [128] ++ List.replicate k 0) ++ [.int .u8 0] := by
    rw [rep_snoc, ← List.append_assoc, Lib.byteCells_append]; rfl
   rw [← e1] at hr2
   refine ⟨(k + 1, r2), ⟨by simp only; omega, hr2⟩, by simp only; omega, ?_⟩
   simp only [e1]
   exact ⟨⟨rfl, rfl, rfl, rfl, trivial⟩, .cons (.cons (.cons (.cons .nil))), rfl⟩
 · obtain rfl : k = Qh bs.length := by
    unfold Qh at hk1 ⊢; omega
   refine ld1 2 rfl (v := ptr b) rfl ?_
   refine ld1 0 rfl (v := .int .i64 16) rfl ?_
   refine .as 15 (by decide) (by decide) (by decide) ?_
   have hb0 : ZP bs 0 = bs ++ [128] ++ List.replicate (Qh bs.length) 0 := by simp [ZP]
   rw [← hb0] at hR ⊢
   refine lp qi (fun x : Nat × Sx.Own => x.1 ≤ 16 ∧ Rw 1 (bs.length + 1 + Qh bs.length + x.1) x.2 (Lib.byteCells (ZP bs x.1)))
    (fun x => ⟨[(2, ptr b2), (5, sv x.2 (bs.length + 1 + Qh bs.length + x.1)), (6, .int .u64 bs.length), (7, .int .i64 128), (8, .int .i64 (15 - (x.1 : Int)))], [cr b (shp tb) 154, cr tb (ktab.map uv).toArray 34, cl b2 #[ptr b] 148, se x.2 (Lib.byteCells (ZP bs x.1)) 5], []⟩) (fun x => 16 - x.1) (0, some (rb, cap, jj))
    ⟨Nat.zero_le _, hR⟩ ⟨⟨rfl, rfl, rfl, rfl, rfl, trivial⟩, .cons (.cons (.cons (.cons .nil))), rfl⟩ ?_
   clear hR
   rintro ⟨j, r⟩ ⟨hj, hR⟩
   simp only at hj hR
   rcases r with _ | ⟨rb, cap, jj⟩
   · have := hR.2; omega
   have step : ∀ (r2 : Sx.Own), Rw 1 (bs.length + 1 + Qh bs.length + j + 1) r2 (Lib.byteCells (ZP bs j) ++ [.int .u8 (QE bs.length j).toNat]) → Rw 1 (bs.length + 1 + Qh bs.length + (j + 1)) r2 (Lib.byteCells (ZP bs (j + 1))) := by
    intro r2 h; rw [qac]; exact h
   refine cd (fun h => ?_) (fun h => ?_)
   · have hlt : j < 16 := by omega
     refine cd (fun h2 => ?_) (fun h2 => ?_)
     · have hz : (0 : Int) = (QE bs.length j).toNat := by rw [qcA _ _ hn (by omega)]; rfl
       refine .mk #[.int .u8 (QE bs.length j).toNat] 5 (fun w => by rw [← hz]; exact bs5 _ w) (fun bn => ?_)
       refine ap1 (r := some (rb, cap, jj)) (xs := Lib.byteCells (ZP bs j)) 3 4 qi rfl zp rfl rfl hR rfl rfl (by omega) (by unfold maxLen; omega) (fun r2 hr2 => ?_)
       refine .as (15 - ((j + 1 : Nat) : Int)) (by omega) (by simp only [mn]; omega) (by simp only [mx]; omega) ?_
       refine ⟨(j + 1, r2), ⟨by simp only; omega, step r2 hr2⟩, by simp only; omega, ?_⟩
       simp only [qac]
       exact ⟨⟨rfl, rfl, rfl, rfl, rfl, trivial⟩, .cons (.cons (.cons (.cons .nil))), rfl⟩
     · refine cq (fun h3 => ?_) (fun h3 => ?_)
       · have hz : (QE bs.length j).toNat = 0 := by rw [qcA _ _ hn (by omega)]; rfl
         refine ⟨by decide, ?_⟩
         refine .to ((QE bs.length j).toNat : Int) (by rw [shrI _ 61 (by decide) 61 rfl, Nat.div_eq_of_lt (by omega), hz]; rfl) ?_
         refine .mk #[.int .u8 (QE bs.length j).toNat] 5 (fun w => bs5 _ w) (fun bn => ?_)
         refine ap1 (r := some (rb, cap, jj)) (xs := Lib.byteCells (ZP bs j)) 3 4 qi rfl zp rfl rfl hR rfl rfl (by omega) (by unfold maxLen; omega) (fun r2 hr2 => ?_)
         refine .as (15 - ((j + 1 : Nat) : Int)) (by omega) (by simp only [mn]; omega) (by simp only [mx]; omega) ?_
         refine ⟨(j + 1, r2), ⟨by simp only; omega, step r2 hr2⟩, by simp only; omega, ?_⟩
         simp only [qac]
         exact ⟨⟨rfl, rfl, rfl, rfl, rfl, trivial⟩, .cons (.cons (.cons (.cons .nil))), rfl⟩
       · have h8 : 8 ≤ j := by omega
         refine ⟨by decide, .as ((8 * bs.length : Nat) : Int) (by show (bs.length : Int) * 2 ^ 3 = _; omega) (by simp only [mn]; omega) (by simp only [mx]; omega) ?_⟩
         refine .as ((8 * (15 - j) : Nat) : Int) (by omega) (by simp only [mn]; omega) (by simp only [mx]; omega) ?_
         refine ⟨by omega, ?_⟩
         refine .to ((QE bs.length j).toNat : Int) (by rw [shrI _ (8 * (15 - j)) (by omega) _ rfl, qbM, Nat.pow_mul]; rfl) ?_
         refine .mk #[.int .u8 (QE bs.length j).toNat] 5 (fun w => bs5 _ w) (fun bn => ?_)
         refine ap1 (r := some (rb, cap, jj)) (xs := Lib.byteCells (ZP bs j)) 3 4 qi rfl zp rfl rfl hR rfl rfl (by omega) (by unfold maxLen; omega) (fun r2 hr2 => ?_)
         refine .as (15 - ((j + 1 : Nat) : Int)) (by omega) (by simp only [mn]; omega) (by simp only [mx]; omega) ?_
         refine ⟨(j + 1, r2), ⟨by simp only; omega, step r2 hr2⟩, by simp only; omega, ?_⟩
         simp only [qac]
         exact ⟨⟨rfl, rfl, rfl, rfl, rfl, trivial⟩, .cons (.cons (.cons (.cons .nil))), rfl⟩
   · obtain rfl : j = 16 := by omega
     have hpad : ZP bs 16 = zY bs := rfl
     obtain ⟨hpl1, hpl2⟩ := qcT bs
     rw [hpad] at hR ⊢
     have hN : bs.length + 1 + Qh bs.length + 16 = (zY bs).length := by omega
     rw [hN] at hR ⊢
     have hsha : zt bs = qaW (QL (zY bs) ((zY bs).length / 128)) := rfl
     rw [hsha]
     generalize zY bs = pt at *
     refine ld1 2 rfl (v := ptr b) rfl ?_
     refine ldP 0 rfl (d := (kroots.l.map uv).toArray) rfl rfl ?_
     intro b9
     refine sN 4 rfl rfl rfl ?_ (by kernel_rfl)
     refine inl (C := ⟨Try.prog, tab, 110, [], w, none⟩) qi Try.func127 rfl Try.ntmps127 rfl ?_
     intro b20 b21
     refine ld1 6 rfl (v := .int .i64 128) rfl ?_
     refine cf rfl ?_
     refine bk ?_
     refine rf (C := ⟨Try.prog, tab, 110, [], w, none⟩) (α := Unit) (β := Empty) qi rfl rfl rfl (qdT b20 b21 rb 0 pt.length cap 128 (by decide) (by omega) (by decide) hR.2.1) 4 (fun i _ => cl b9 ((QL pt (i / 128)).l.map uv).toArray 96) (fun y => y.elim) (fun y => y.elim) () rfl
      (fun w' hs => ⟨⟨hs.nth (k := 5) rfl, hs.nth (k := 6) rfl⟩, ?_⟩) ?_ ?_ ?_ (fun y => y.elim)
     · rintro k (hk | rfl | rfl) hw
       · exact hk.elim
       · exact (qbs hs.apart (i := 4) (j := 5) rfl rfl (by decide) _).1 hw (by simp)
       · exact (qbs hs.apart (i := 4) (j := 6) rfl rfl (by decide) _).1 hw (by simp)
     · rintro i args j ⟨_, _, rfl, _⟩; rfl
     · rintro l i args j x w' ready busy ⟨hi, him, rfl, rfl⟩
       have hi2 : i + 128 ≤ pt.length := by omega
       have hcv : chV rb 0 pt.length 128 i = .slice (some ⟨rb, i, none⟩) 128 128 := by unfold chV; rw [show min 128 (pt.length - i) = 128 by omega, Nat.zero_add]
       rw [hcv]
       have hpi : QL pt ((i + 128) / 128) = qcR (QL pt (i / 128)) ((pt.drop i).take 128) := by
        rw [show (i + 128) / 128 = i / 128 + 1 by omega, QL, show 128 * (i / 128) = i by omega]
       refine ⟨rfl, ?_⟩
       refine ld1 2 rfl (v := ptr b) rfl ?_
       refine ldN 4 rfl rfl ?_
       refine cvs (fun w hs => piece_any b tb rb i 128 (Lib.byteCells pt ++ jj).toArray (QL pt (i / 128)) ((pt.drop i).take 128) (by rw [List.length_take, List.length_drop]; omega) (fun q hq => ?_) (Nat.le_refl _) w (hs.nth (k := 0) rfl) (hs.nth (k := 1) rfl) (hs.nth (k := 3) rfl)) ?_
       · rw [List.getElem?_toArray, List.getElem?_append_left (by rw [Lib.byteCells_length]; omega), qaD _ _ (by omega)]
         simp [List.getD, hq]
       refine sN 4 rfl (h8_size _ _) (h8_one _) ?_ (by kernel_rfl)
       refine ⟨(), ?_, fun b hb => .inl (by simpa using hb)⟩
       simp only [hpi]
       exact .drop (.drop (.drop (.drop (.cons (.drop (.drop (.cons .nil)))))))
     · intro i y b0 hfin
       obtain rfl : i = pt.length := by omega
       generalize QL pt (pt.length / 128) = S
       refine ldN 4 rfl rfl ?_
       refine lp qi (fun x : Nat × Sx.Own => x.1 ≤ 8 ∧ Rw 1 (8 * x.1) x.2 (Lib.byteCells ((S.l.take x.1).flatMap zD)))
        (fun x => ⟨[(2, ptr b2), (11, sv x.2 (8 * x.1)), (88, .agg (S.l.map uv).toArray), (89, .int .i64 x.1)], [cr b (shp tb) 154, cl b2 #[ptr b] 148, dfe b0, se x.2 (Lib.byteCells ((S.l.take x.1).flatMap zD)) 5], [{ target := .collected b0, args := #[] }]⟩) (fun x => 8 - x.1) (0, none)
        ⟨Nat.zero_le _, Rw.nil 1⟩ ⟨⟨rfl, rfl, rfl, rfl, trivial⟩, .cons (.drop (.cons (.drop (.drop (.drop (.drop (.cons (.pad .nil)))))))), rfl⟩ ?_
       rintro ⟨k, r⟩ ⟨hk, hR⟩
       simp only at hk hR
       refine cd (fun h => ?_) (fun h => ?_)
       · have hlt : k < 8 := by omega
         refine ⟨by omega, by omega, .cell (uv (S.l.getD k 0)) rfl (by rw [qI, Nat.mul_one, Int.toNat_natCast]; exact qa4 S k hlt) ?_⟩
         refine ld1 1 rfl (v := ptr b) rfl ?_
         refine ld1 0 rfl (v := .int .i64 64) rfl ?_
         refine .as 56 (by decide) (by decide) (by decide) ?_
         have hf0 : (S.l.take k).flatMap zD ++ (zD (S.l.getD k 0)).take 0 = (S.l.take k).flatMap zD := by simp
         generalize hx : S.l.getD k 0 = x
         rw [hx] at hf0
         refine lp qi (fun y : Nat × Sx.Own => y.1 ≤ 8 ∧ Rw 1 (8 * k + y.1) y.2 (Lib.byteCells ((S.l.take k).flatMap zD ++ (zD x).take y.1)))
          (fun y => ⟨[(2, ptr b2), (11, sv y.2 (8 * k + y.1)), (13, uv x), (14, .int .i64 (56 - 8 * (y.1 : Int))), (88, .agg (S.l.map uv).toArray), (89, .int .i64 k)], [cr b (shp tb) 154, cl b2 #[ptr b] 148, dfe b0, se y.2 (Lib.byteCells ((S.l.take k).flatMap zD ++ (zD x).take y.1)) 5], [{ target := .collected b0, args := #[] }]⟩) (fun y => 8 - y.1) (0, r)
          ⟨Nat.zero_le _, by rw [hf0]; exact hR⟩ ⟨⟨rfl, rfl, rfl, rfl, rfl, rfl, trivial⟩, by simp only [hf0]; exact .cons (.cons (.cons (.cons .nil))), rfl⟩ ?_
         clear hR
         rintro ⟨m, r⟩ ⟨hm, hR⟩
         simp only at hm hR
         refine cd (fun h => ?_) (fun h => ?_)
         · have hmt : m < 8 := by omega
           have hE : Lib.byteCells ((S.l.take k).flatMap zD ++ (zD x).take (m + 1)) = Lib.byteCells ((S.l.take k).flatMap zD ++ (zD x).take m) ++ [.int .u8 (UInt8.ofNat (x.toNat / 2 ^ (56 - 8 * m) % 256)).toNat] := by
            rw [outW_snoc x m hmt, ← List.append_assoc, Lib.byteCells_append]; rfl
           refine ⟨by omega, ?_⟩
           refine .to ((UInt8.ofNat (x.toNat / 2 ^ (56 - 8 * m) % 256)).toNat : Int) (by rw [qcz x (56 - 8 * m) (by omega) _ (by omega)]; exact qdF x m) ?_
           refine .mk #[.int .u8 (UInt8.ofNat (x.toNat / 2 ^ (56 - 8 * m) % 256)).toNat] 5 (fun w => bs5 _ w) (fun bn => ?_)
           refine ap1 (r := r) (n := 8 * k + m) (xs := Lib.byteCells ((S.l.take k).flatMap zD ++ (zD x).take m)) 3 4 qi rfl zp rfl rfl hR rfl rfl (by omega) (by unfold maxLen; omega) (fun r2 hr2 => ?_)
           refine .as (56 - 8 * ((m + 1 : Nat) : Int)) (by omega) (by simp only [mn]; omega) (by simp only [mx]; omega) ?_
           refine ⟨(m + 1, r2), ⟨by simp only; omega, by rw [hE]; exact hr2⟩, by simp only; omega, ?_⟩
           simp only [hE]
           exact ⟨⟨rfl, rfl, rfl, rfl, rfl, rfl, trivial⟩, .cons (.cons (.cons (.cons .nil))), rfl⟩
         · obtain rfl : m = 8 := by omega
           have hE : (S.l.take (k + 1)).flatMap zD = (S.l.take k).flatMap zD ++ (zD x).take 8 := by
            rw [h8_take S k hlt, List.flatMap_append, hx, List.take_of_length_le (show (zD x).length ≤ 8 by simp [zD])]; simp
           refine .as ((k + 1 : Nat) : Int) (by omega) (by simp only [mn]; omega) (by simp only [mx]; omega) ?_
           refine ⟨(k + 1, r), ⟨by simp only; omega, by rw [hE]; exact hR⟩, by simp only; omega, ?_⟩
           simp only [hE]
           exact ⟨⟨rfl, rfl, rfl, rfl, trivial⟩, .cons (.cons (.cons (.cons .nil))), rfl⟩
       · obtain rfl : k = 8 := by omega
         refine .mk 2 rfl ?_
         have hE : (S.l.take 8).flatMap zD = qaW S := rfl
         rw [hE] at hR ⊢
         exact ⟨fun w1 hs1 => ⟨r, rfl, hR, qcq hs1 rfl 3 rfl, hs1.below⟩⟩
end
section
open Go.RowKit Go.Sx
def Qr (bs : List UInt8) : Value := .agg (Lib.byteCells bs).toArray
theorem QS (bs : List UInt8) : (Lib.byteCells bs).toArray.toList.all (·.oneCell') = true := by simp [Lib.byteCells, Value.oneCell']
theorem table_any (w : World) : Calls Try.prog 119 ([] : List Value).toArray w fun e w' => ∃ b, e = .returned (.slice (some ⟨b, 0, none⟩) 80 80) ∧ w.heap.size ≤ b ∧ w'.heap[b]? = some (.cells (ktab.map uv).toArray 34 (0, 0)) ∧ Below w.heap.size w w' := by
 refine (enter qi Try.func119 rfl Try.ntmps119 rfl (St.start w) (R := fun v w' => ∃ b, v = .slice (some ⟨b, 0, none⟩) 80 80 ∧ w.heap.size ≤ b ∧ w'.heap[b]? = some (.cells (ktab.map uv).toArray 34 (0, 0)) ∧ Below w.heap.size w w') ?_).mono (fun e w' ⟨v, he, r, hv, h⟩ => ⟨r, by rw [he, hv], h⟩)
 refine .mk (ktab.map uv).toArray 34 (fun w => ?_) (fun bn => ?_)
 · obtain ⟨i, hi, hz, hs, hb⟩ := zm Zo
   exact run_buildSlice w _ _ 80 _ _ i (.int .u64 0) und94 hi hz (by rw [hs]; decide) (by rw [hs]; decide) (by rw [hs]; kernel_rfl)
 · exact ⟨fun w1 hs => ⟨bn, rfl, (hs.own _ (List.mem_of_getElem? (i := 0) rfl) rfl rfl).resolve_right (by simp), hs.nth (k := 0) rfl, hs.below⟩⟩
theorem roots_any (w : World) : Calls Try.prog 120 ([] : List Value).toArray w fun e w' => e = .returned (.agg (kroots.l.map uv).toArray) ∧ Below w.heap.size w w' := by
 refine q9 qi Try.func120 rfl Try.ntmps120 rfl (St.start w) ?_
 intro b0
 refine bu (c := (kroots.l.map uv).toArray) (by kernel_rfl) ?_
 refine sN 0 rfl rfl rfl ?_ (by kernel_rfl)
 refine ldN 0 rfl rfl ?_
 exact rt rfl
theorem long_any (pb po kc : Nat) (vs : List Value) (xss : List (List Value)) (bs : List UInt8) (hbs : xss.flatten = Lib.byteCells bs) (hlen : vs.length = xss.length) (w : World) (hpb : pb < w.heap.size) (hp : ∀ (i : Nat) (u : Value), vs[i]? = some u → w.cell? ⟨pb, po + i, none⟩ = some u)
 (hx : ∀ (i : Nat) (v : Value) (xs : List Value), vs[i]? = some v → xss[i]? = some xs → Rd w v xs) (hn : bs.length ≤ 1000000) (hk : xss.length ≤ 1000) :
 Calls Try.prog 112 ([.slice (some ⟨pb, po, none⟩) xss.length kc] : List Value).toArray w fun e w' => e = .returned (Qr (zt bs)) ∧ Below w.heap.size w w' := by
 refine q9 qi Try.func112 rfl Try.ntmps112 rfl (St.start w) ?_
 intro b2
 refine cn (fun w' _ => table_any w') (fun tb => ?_)
 refine cv (fun w' => roots_any w') ?_
 refine bu (c := #[.int .i64 28, .int .i64 34, .int .i64 39]) (by kernel_rfl) ?_
 refine bu (c := #[.int .i64 14, .int .i64 18, .int .i64 41]) (by kernel_rfl) ?_
 refine bu (c := #[.int .i64 1, .int .i64 8, .int .i64 7]) (by kernel_rfl) ?_
 refine bu (c := #[.int .i64 19, .int .i64 61, .int .i64 6]) (by kernel_rfl) ?_
 refine bu (c := #[.int .i64 28, .int .i64 34, .int .i64 39, .int .i64 14, .int .i64 18, .int .i64 41, .int .i64 1, .int .i64 8, .int .i64 7, .int .i64 19, .int .i64 61, .int .i64 6]) (by kernel_rfl) ?_
 refine bu (c := shp tb) (by kernel_rfl) ?_
 intro b
 refine co (fun w' hs => digest_any b tb pb po kc vs xss bs hbs hlen w' (Nat.lt_of_lt_of_le hpb hs.below.size) (fun i u hu => (hs.below.cell (p := ⟨pb, po + i, none⟩) hpb).trans (hp i u hu)) (fun i v xs h1 h2 => (hx i v xs h1 h2).below hs.below) hn hk (hs.nth (k := 2) rfl) (hs.nth (k := 1) rfl)) (fun r hr => ?_)
 rcases r with _ | ⟨rb, cap, jj⟩
 · have := hr.2; omega
 have hl : (Lib.byteCells (zt bs)).length = 64 := by rw [Lib.byteCells_length, zL]
 generalize zt bs = D at *
 refine ⟨by decide, ?_⟩
 refine ldP 3 rfl (d := (Lib.byteCells D).toArray) (by simpa using hl) (by simp [hl]) ?_
 refine sN 0 rfl (by simp [hl]) (QS D) ?_ (by kernel_rfl)
 refine ldN 0 rfl (by simp [hl]) ?_
 exact rt rfl
end
section
open Go.RowKit Go.Sx
theorem q8 : Try.prog.underlying 22 = some (.slice 5) := by kernel_rfl
theorem bs0 (w : World) : (Instr.buildSlice 22 0 #[]).run Try.prog w = .ok (.slice (some ⟨w.heap.size, 0, none⟩) 0 0) (w.alloc (.cells #[] 5)) := by
 obtain ⟨i, hi, hz, hs, hb⟩ := zm zp
 simp [Instr.buildSlice, run_underlying q8, sizeOf, typeInfo, hi, newRow, Instr.fill]
 exact congrArg (fun c => w.alloc (.cells c 5)) (Array.ext' (by simp))
theorem set_down (k : Nat) (T : List Value) (x z : Value) (hk : k < T.length) (hx : T[k]? = some x) : (List.replicate (k + 1) z ++ T.drop (k + 1)).set k x = List.replicate k z ++ T.drop k := by
 rw [List.replicate_succ', List.append_assoc, List.set_append_right _ _ (by simp), List.length_replicate, Nat.sub_self]
 obtain ⟨h, rfl⟩ := List.getElem?_eq_some_iff.1 hx
 rw [List.drop_eq_getElem_cons hk]; rfl
def TL (n : Nat) : List Value := Lib.byteCells ((List.range 16).map (QE n))
theorem qdk (n : Nat) : (TL n).length = 16 := by simp [TL, Lib.byteCells]
theorem TL_at (n j : Nat) (h : j < 16) : (TL n)[j]? = some (.int .u8 (QE n j).toNat) := by
 simp [TL, Lib.byteCells, h]
theorem padded_any (v : Value) (bs : List UInt8) (w : World) (hrd : Rd w v (Lib.byteCells bs)) (hn : bs.length ≤ 1000000) :
 Calls Try.prog 124 ([v, .int .i64 128, .int .i64 16] : List Value).toArray w fun e w' => ∃ r, e = .returned (sv r (zY bs).length) ∧ Rw 1 (zY bs).length r (Lib.byteCells (zY bs)) ∧ qdl w w' r (Lib.byteCells (zY bs)) 5 ∧ Below w.heap.size w w' := by
 have hrd0 := hrd
 obtain ⟨va, vc, hv, _⟩ := hrd0
 rw [Lib.byteCells_length] at hv
 have hmk := fun w => made1 (P := Try.prog) w q8 zp rfl 16 16 (by decide) (by decide) (by decide)
 refine (enter qi Try.func124 rfl Try.ntmps124 rfl (St.start w) (R := fun v w' => ∃ r, v = sv r (zY bs).length ∧ Rw 1 (zY bs).length r (Lib.byteCells (zY bs)) ∧ qdl w w' r (Lib.byteCells (zY bs)) 5 ∧ Below w.heap.size w w') ?_).mono (fun e w' ⟨v, he, r, hv, h⟩ => ⟨r, by rw [he, hv], h⟩)
 refine .mk #[] 5 (fun w => bs0 w) (fun b0 => ?_)
 refine ap (r := some (b0, 0, [])) (n := 0) (xs := []) (m := bs.length) (news := Lib.byteCells bs) 0 qi rfl zp rfl rfl ⟨rfl, by decide, by decide, rfl⟩ (fun w' hs => by rw [← Lib.byteCells_length bs]; exact (hrd.below hs.below).src q8 (fun u hu => by obtain ⟨_, _, rfl⟩ := List.mem_map.1 hu; rfl)) (by omega) (by unfold maxLen; omega) (fun r1 hr1 => ?_)
 rw [Nat.zero_add, List.nil_append] at *
 refine .mk #[.int .u8 128] 5 (fun w => bs5 _ w) (fun bn => ?_)
 refine ap1 (r := r1) (n := bs.length) (xs := Lib.byteCells bs) 0 1 qi rfl zp rfl rfl hr1 rfl rfl (by omega) (by unfold maxLen; omega) (fun r2 hr2 => ?_)
 refine lp qi (fun x : Nat × Sx.Own => x.1 ≤ Qh bs.length ∧ Rw 1 (bs.length + 1 + x.1) x.2 (Lib.byteCells (bs ++ [128] ++ List.replicate x.1 0)))
  (fun x => ⟨[(0, v), (1, .int .i64 128), (2, .int .i64 16), (7, sv x.2 (bs.length + 1 + x.1))], [se x.2 (Lib.byteCells (bs ++ [128] ++ List.replicate x.1 0)) 5], []⟩) (fun x => Qh bs.length - x.1) (0, r2)
  ⟨Nat.zero_le _, by simpa [Lib.byteCells_append, bc_one] using hr2⟩ ⟨⟨rfl, rfl, rfl, rfl, trivial⟩, ?_, rfl⟩ ?_
 · simp only [List.replicate_zero, List.append_nil, Lib.byteCells_append, bc_one]
   exact .cons .nil
 rintro ⟨k, r⟩ ⟨hk1, hR⟩
 simp only at hk1 hR
 rcases r with _ | ⟨rb, cap, jj⟩
 · have := hR.2; omega
 have hfl : Qh bs.length < 128 := by unfold Qh; omega
 refine .as ((bs.length + 1 + k + 16 : Nat) : Int) (by simp only; omega) (by simp only [mn]; omega) (by simp only [mx]; omega) ?_
 refine ⟨by omega, by simp only [mx]; omega, by decide, ?_⟩
 refine cne (fun h => ?_) (fun h => ?_)
 · have hlt : k < Qh bs.length := by
    rcases Nat.lt_or_ge k (Qh bs.length) with h1 | h1
    · exact h1
    · exfalso; apply h; obtain rfl : k = Qh bs.length := by omega
      unfold Qh; omega
   refine .mk #[.int .u8 0] 5 (fun w => bs5 _ w) (fun bn => ?_)
   refine ap1 (r := some (rb, cap, jj)) (xs := Lib.byteCells (bs ++ [128] ++ List.replicate k 0)) 0 1 qi rfl zp rfl rfl hR rfl rfl (by omega) (by unfold maxLen; omega) (fun r3 hr3 => ?_)
   have e1 : Lib.byteCells (bs ++ [128] ++ List.replicate (k + 1) 0) = Lib.byteCells (bs ++ [128] ++ List.replicate k 0) ++ [.int .u8 0] := by
    rw [rep_snoc, ← List.append_assoc, Lib.byteCells_append]; rfl
   rw [← e1] at hr3
   refine ⟨(k + 1, r3), ⟨by simp only; omega, hr3⟩, by simp only; omega, ?_⟩
   simp only [e1]
   exact ⟨⟨rfl, rfl, rfl, rfl, trivial⟩, .cons .nil, rfl⟩
 · obtain rfl : k = Qh bs.length := by
    unfold Qh at hk1 ⊢; omega
   refine .mk 16 16 _ _ hmk fun tb => ?_
   rw [hv]
   refine .as 15 (by decide) (by decide) (by decide) ?_
   refine ⟨by omega, by simp only [mx]; omega, by decide, ?_⟩
   refine .as (((bs.length % 32) * 8 : Nat) : Int) (by omega) (by simp only [mn]; omega) (by simp only [mx]; omega) ?_
   refine .to ((QE bs.length 15).toNat : Int) (by rw [qbM]; show ((_ : Nat) : Int) % 256 = _; omega) ?_
   refine ⟨by decide, by decide, ?_⟩
   refine s1 1 rfl (by decide) ?_
   refine ⟨by omega, by simp only [mx]; omega, by decide, ?_⟩
   refine .as 14 (by decide) (by decide) (by decide) ?_
   generalize hbn : bs.length = n at *
   have hpb : zY bs = bs ++ [128] ++ List.replicate (Qh n) 0 ++ (List.range 16).map (QE n) := by rw [← hbn]; rfl
   have hpl := (qcT bs).2
   rw [hbn] at hpl
   have hi15 : ((List.replicate 16 (Value.int .u8 0)).toArray.setIfInBounds (nad 0 (nmu (Int.toNat 15) 1)) (.int .u8 (QE n 15).toNat)) = (List.replicate 15 (Value.int .u8 0) ++ (TL n).drop 15).toArray := by
    rw [← set_down 15 (TL n) _ (.int .u8 0) (by rw [qdk]; decide) (TL_at n 15 (by decide)), List.drop_of_length_le (by rw [qdk]; decide)]
    rfl
   refine lp qi (fun m : Nat => 1 ≤ m ∧ m ≤ 16) (fun m => ⟨[(7, sv (some (rb, cap, jj)) (n + 1 + Qh n)), (8, .slice (some ⟨tb, 0, none⟩) 16 16), (9, .int .i64 (8 * n / 256 ^ m : Nat)), (10, .int .i64 (15 - (m : Int)))],
    [se (some (rb, cap, jj)) (Lib.byteCells (bs ++ [128] ++ List.replicate (Qh n) 0)) 5, cl tb (List.replicate (16 - m) (Value.int .u8 0) ++ (TL n).drop (16 - m)).toArray 5], []⟩) (fun m => 16 - m) 1 ⟨Nat.le_refl _, by decide⟩
    ⟨⟨rfl, rfl, congrArg (fun x : Int => some (Value.int .i64 x)) (show (n : Int) / 32 = ((8 * n / 256 ^ 1 : Nat) : Int) by omega), rfl, trivial⟩, by simp only [show 16 - 1 = 15 from rfl, ← hi15]; exact .cons (.cons .nil), rfl⟩ ?_
   intro m hm
   refine cd (fun h => ?_) (fun h => ?_)
   · have hlt : m < 16 := by omega
     have hdiv : 8 * n / 256 ^ (m + 1) = 8 * n / 256 ^ m / 256 := by rw [Nat.pow_succ, Nat.div_div_eq_div_mul]
     have hle : 8 * n / 256 ^ m ≤ 8 * n := Nat.div_le_self _ _
     have hE : (List.replicate (16 - (m + 1)) (Value.int .u8 0) ++ (TL n).drop (16 - (m + 1))).toArray = (List.replicate (16 - m) (Value.int .u8 0) ++ (TL n).drop (16 - m)).toArray.setIfInBounds (nad 0 (nmu (Int.toNat (15 - (m : Int))) 1)) (.int .u8 (QE n (15 - m)).toNat) := by
      rw [qK, qI, Nat.zero_add, Nat.mul_one, show Int.toNat (15 - (m : Int)) = 15 - m by omega, List.setIfInBounds_toArray, show 16 - m = 15 - m + 1 by omega, set_down (15 - m) (TL n) _ _ (by rw [qdk]; omega) (TL_at n _ (by omega)), show 16 - (m + 1) = 15 - m by omega]
     have htv : (QE n (15 - m)).toNat = 8 * n / 256 ^ m % 256 := by rw [qbM, show 15 - (15 - m) = m by omega]
     generalize 8 * n / 256 ^ m = q at *
     refine ⟨by omega, by simp only [mx]; omega, by decide, ?_⟩
     refine .to ((QE n (15 - m)).toNat : Int) (by rw [htv]; show ((_ : Nat) : Int) % 256 % 256 = _; omega) ?_
     refine ⟨by omega, by omega, ?_⟩
     refine s1 1 rfl (by rw [qK, qI, Nat.zero_add, Nat.mul_one]; simp [qdk]; omega) ?_
     refine ⟨by omega, by simp only [mx]; omega, by decide, ?_⟩
     refine .as (15 - ((m + 1 : Nat) : Int)) (by omega) (by simp only [mn]; omega) (by simp only [mx]; omega) ?_
     refine ⟨m + 1, by omega, by omega, ?_⟩
     simp only [hE]
     exact ⟨⟨rfl, rfl, congrArg (fun x : Int => some (Value.int .i64 x)) (show (q : Int) / 256 = ((8 * n / 256 ^ (m + 1) : Nat) : Int) by rw [hdiv]; omega), rfl, trivial⟩, .cons (.cons .nil), rfl⟩
   · obtain rfl : m = 16 := by omega
     have hT : (List.replicate (16 - 16) (Value.int .u8 0) ++ (TL n).drop (16 - 16)).toArray = (TL n).toArray := by simp
     rw [hT]
     refine ap (r := some (rb, cap, jj)) (n := n + 1 + Qh n) (xs := Lib.byteCells (bs ++ [128] ++ List.replicate (Qh n) 0)) (m := 16) (news := TL n) 0 qi rfl zp rfl rfl hR (srcE (C := ⟨Try.prog, tab, 57, [], w, none⟩) (e' := 5) (tx := 22) (z := 1) rfl qi (src 1 rfl (by rw [List.drop_zero, List.take_of_length_le (Nat.le_refl _)])) (qdk n) (fun u hu => by obtain ⟨_, _, rfl⟩ := List.mem_map.1 hu; rfl)) (by omega) (by unfold maxLen; omega) (fun r3 hr3 => ?_)
     have e1 : Lib.byteCells (bs ++ [128] ++ List.replicate (Qh n) 0) ++ TL n = Lib.byteCells (zY bs) := by rw [hpb, Lib.byteCells_append _ ((List.range 16).map (QE n))]; rfl
     have e2 : n + 1 + Qh n + 16 = (zY bs).length := by omega
     rw [e1, e2] at hr3 ⊢
     exact ⟨fun w1 hs1 => ⟨r3, rfl, hr3, qcq hs1 rfl 0 rfl, hs1.below⟩⟩
end
section
open Go.RowKit Go.Sx
theorem zd (x : Wd) (n : Nat) (h0 : 0 < n) (hn : n < 64) (w : World) : Calls Try.prog 125 ([uv x, .int .u64 n] : List Value).toArray w fun e w' => e = .returned (uv (rot x n)) ∧ Below w.heap.size w w' := by
 refine q9 qi Try.func125 rfl Try.ntmps125 rfl (St.start w) ?_
 refine ⟨by omega, ?_⟩
 refine .as ((64 - n : Nat) : Int) (by omega) (by simp only [mn]; omega) (by simp only [mx]; omega) ?_
 refine ⟨by omega, .to (ux (x <<< (64 - n))) (u_shl x (64 - n) (by omega) _ rfl) ?_⟩
 refine .to (ux (rot x n)) (by rw [qcz x n (by omega) _ rfl, ← rot_add x n hn]; exact QM _ _) ?_
 exact rt rfl
theorem rtable_any (w : World) : Calls Try.prog 123 ([] : List Value).toArray w fun e w' => ∃ b, e = .returned (.slice (some ⟨b, 0, none⟩) 80 80) ∧ w.heap.size ≤ b ∧ w'.heap[b]? = some (.cells (ktab.map uv).toArray 34 (0, 0)) ∧ Below w.heap.size w w' := by
 refine (enter qi Try.func123 rfl Try.ntmps123 rfl (St.start w) (R := fun v w' => ∃ b, v = .slice (some ⟨b, 0, none⟩) 80 80 ∧ w.heap.size ≤ b ∧ w'.heap[b]? = some (.cells (ktab.map uv).toArray 34 (0, 0)) ∧ Below w.heap.size w w') ?_).mono (fun e w' ⟨v, he, r, hv, h⟩ => ⟨r, by rw [he, hv], h⟩)
 refine .mk (ktab.map uv).toArray 34 (fun w => ?_) (fun bn => ?_)
 · obtain ⟨i, hi, hz, hs, hb⟩ := zm Zo
   exact run_buildSlice w _ _ 80 _ _ i (.int .u64 0) und94 hi hz (by rw [hs]; decide) (by rw [hs]; decide) (by rw [hs]; kernel_rfl)
 · exact ⟨fun w1 hs => ⟨bn, rfl, (hs.own _ (List.mem_of_getElem? (i := 0) rfl) rfl rfl).resolve_right (by simp), hs.nth (k := 0) rfl, hs.below⟩⟩
theorem rroots_any (w : World) : Calls Try.prog 122 ([] : List Value).toArray w fun e w' => ∃ b, e = .returned (.slice (some ⟨b, 0, none⟩) 8 8) ∧ w.heap.size ≤ b ∧ w'.heap[b]? = some (.cells (kroots.l.map uv).toArray 34 (0, 0)) ∧ Below w.heap.size w w' := by
 refine (enter qi Try.func122 rfl Try.ntmps122 rfl (St.start w) (R := fun v w' => ∃ b, v = .slice (some ⟨b, 0, none⟩) 8 8 ∧ w.heap.size ≤ b ∧ w'.heap[b]? = some (.cells (kroots.l.map uv).toArray 34 (0, 0)) ∧ Below w.heap.size w w') ?_).mono (fun e w' ⟨v, he, r, hv, h⟩ => ⟨r, by rw [he, hv], h⟩)
 refine .mk (kroots.l.map uv).toArray 34 (fun w => ?_) (fun bn => ?_)
 · obtain ⟨i, hi, hz, hs, hb⟩ := zm Zo
   exact run_buildSlice w _ _ 8 _ _ i (.int .u64 0) und94 hi hz (by rw [hs]; decide) (by rw [hs]; decide) (by rw [hs]; kernel_rfl)
 · exact ⟨fun w1 hs => ⟨bn, rfl, (hs.own _ (List.mem_of_getElem? (i := 0) rfl) rfl rfl).resolve_right (by simp), hs.nth (k := 0) rfl, hs.below⟩⟩
theorem outB_at (S : H8) (i : Nat) (h : i < 64) : (qaW S)[i]? = some (UInt8.ofNat ((S.l.getD (i / 8) 0).toNat / 2 ^ (56 - 8 * (i % 8)) % 256)) := by
 have e : qaW S = (List.range 64).map (fun i => UInt8.ofNat ((S.l.getD (i / 8) 0).toNat / 2 ^ (56 - 8 * (i % 8)) % 256)) := rfl
 rw [e]; simp [h]
theorem outB_len (S : H8) : (qaW S).length = 64 := by simp [qaW, H8.l, zD]
def wt (p : List UInt8) (t : Nat) : List Wd := QQ (t - 16) ((Qd p).take t)
theorem wt_len (p : List UInt8) (t : Nat) : (wt p t).length = t := by
 unfold wt; rw [qb2, List.length_take, show (Qd p).length = 16 by simp [Qd]]; omega
theorem wt_low (p : List UInt8) (t : Nat) (h : t ≤ 16) : wt p t = (Qd p).take t := by unfold wt; rw [show t - 16 = 0 by omega]; rfl
theorem wt_high (p : List UInt8) (t : Nat) (h : 16 ≤ t) : wt p t = QQ (t - 16) (Qd p) := by unfold wt; rw [List.take_of_length_le (by simp [Qd]; omega)]
theorem wt_next (p : List UInt8) (t : Nat) (h : 16 ≤ t) : wt p (t + 1) = wt p t ++ [qby (wt p t)] := by
 rw [wt_high p (t + 1) (by omega), wt_high p t h, show t + 1 - 16 = t - 16 + 1 by omega]; rfl
theorem wc_set (ws : List Wd) (x y : Wd) (n : Nat) : (qR (ws ++ [x]) n).setIfInBounds ws.length (uv y) = qR (ws ++ [y]) n := by
 unfold qR
 simp
theorem wc_zero (ws : List Wd) (n : Nat) : qR ws (n + 1) = qR (ws ++ [0]) n := by
 unfold qR
 rw [List.replicate_succ]; simp; rfl
theorem qdD (v : Value) (bs : List UInt8) (w : World) (hrd : Rd w v (Lib.byteCells bs)) (hn : bs.length ≤ 1000000) :
 Calls Try.prog 113 ([v] : List Value).toArray w fun e w' => e = .returned (Qr (zt bs)) ∧ Below w.heap.size w w' := by
 refine q9 qi Try.func113 rfl Try.ntmps113 rfl (St.start w) ?_
 intro b2 b3
 refine cn (fun w' _ => rroots_any w') (fun rb => ?_)
 refine cn (fun w' _ => rtable_any w') (fun tb => ?_)
 refine lp qi (fun i : Nat => i ≤ 8) (fun i => ⟨[(0, v), (2, ptr b2), (3, ptr b3), (4, .slice (some ⟨rb, 0, none⟩) 8 8), (5, .slice (some ⟨tb, 0, none⟩) 80 80), (6, .int .i64 i)],
  [cl b2 (List.replicate 64 (Value.int .u8 0)).toArray 74, cl b3 ((kroots.l.map uv).take i ++ (List.replicate 8 (Value.int .u64 0)).drop i).toArray 96, cl rb (kroots.l.map uv).toArray 34, cl tb (ktab.map uv).toArray 34], []⟩) (fun i => 8 - i) 0 (Nat.zero_le _)
  ⟨⟨rfl, rfl, rfl, rfl, rfl, rfl, trivial⟩, .cons (.cons (.cons (.cons .nil))), rfl⟩ ?_
 intro i hi
 refine cd (fun h => ?_) (fun h => ?_)
 · have hlt : i < 8 := by omega
   refine ⟨by omega, by omega, ?_⟩
   refine ld1 2 rfl (v := uv (kroots.l.getD i 0)) (by rw [qK, qI, Nat.zero_add, Nat.mul_one, Int.toNat_natCast]; exact qa4 _ i hlt) ?_
   refine ⟨by omega, by omega, ?_⟩
   refine s1 1 rfl (by rw [qK, qI, Nat.zero_add, Nat.mul_one, Int.toNat_natCast]; simp [H8.l]; omega) ?_
   have hE : ((kroots.l.map uv).take (i + 1) ++ (List.replicate 8 (Value.int .u64 0)).drop (i + 1)).toArray = ((kroots.l.map uv).take i ++ (List.replicate 8 (Value.int .u64 0)).drop i).toArray.setIfInBounds (nad 0 (nmu (Int.toNat (i : Int)) 1)) (uv (kroots.l.getD i 0)) := by
    rw [qK, qI, Nat.zero_add, Nat.mul_one, Int.toNat_natCast, List.setIfInBounds_toArray, Zd _ _ _ (by simp [H8.l]) i (by simp [H8.l]; omega) (by rw [← List.getElem?_toArray]; exact qa4 _ i hlt)]
   refine .as ((i + 1 : Nat) : Int) (by omega) (by simp only [mn]; omega) (by simp only [mx]; omega) ?_
   refine ⟨i + 1, by omega, by omega, ?_⟩
   rw [hE]
   exact ⟨⟨rfl, rfl, rfl, rfl, rfl, rfl, trivial⟩, .cons (.cons (.cons (.cons .nil))), rfl⟩
 obtain rfl : i = 8 := by omega
 have hE : ((kroots.l.map uv).take 8 ++ (List.replicate 8 (Value.int .u64 0)).drop 8).toArray = (kroots.l.map uv).toArray := rfl
 rw [hE]
 refine co (fun w' hs => padded_any v bs w' (hrd.below hs.below) hn) (fun r hr => ?_)
 have hsha : zt bs = qaW (QL (zY bs) ((zY bs).length / 128)) := rfl
 obtain ⟨hpl1, hpl2⟩ := qcT bs
 have hfl : Qh bs.length < 128 := by unfold Qh; omega
 rw [hsha]
 rcases r with _ | ⟨xb, cap, jj⟩
 · have := hr.2; omega
 generalize zY bs = pt at *
 obtain ⟨q, hq⟩ : ∃ q, pt.length = 128 * q := ⟨pt.length / 128, by omega⟩
 have hq2 : pt.length / 128 = q := by omega
 rw [hq2]
 refine lp qi (fun k : Nat => k ≤ q) (fun k => ⟨[(2, ptr b2), (3, ptr b3), (5, .slice (some ⟨tb, 0, none⟩) 80 80), (7, .slice (some ⟨xb, 0, none⟩) pt.length cap), (8, .int .i64 (128 * k : Nat))],
  [cl b2 (List.replicate 64 (Value.int .u8 0)).toArray 74, cl b3 ((QL pt k).l.map uv).toArray 96, cl tb (ktab.map uv).toArray 34, cl xb (Lib.byteCells pt ++ jj).toArray 5], []⟩) (fun k => q - k) 0 (Nat.zero_le _)
  ⟨⟨rfl, rfl, rfl, rfl, rfl, trivial⟩, .cons (.cons (.drop (.cons (.cons .nil)))), rfl⟩ ?_
 intro k hk
 refine cd (fun h => ?_) (fun h => ?_)
 · have hlt : k < q := by omega
   intro b9
   obtain ⟨p, hp⟩ : ∃ p, p = (pt.drop (128 * k)).take 128 := ⟨_, rfl⟩
   have hpl : p.length = 128 := by rw [hp, List.length_take, List.length_drop]; omega
   have hpc : ∀ i, i < 128 → (Lib.byteCells pt ++ jj).toArray[128 * k + i]? = some (.int .u8 (p.getD i 0).toNat) := by
    intro i hi
    rw [List.getElem?_toArray, List.getElem?_append_left (by rw [Lib.byteCells_length]; omega), qaD _ _ (by omega), hp]
    simp [List.getD, hi]
   have hpn : QL pt (k + 1) = (QL pt k).add (ZJ ktab (QQ 64 (Qd p)) (QL pt k) 80) := by rw [hp]; rfl
   have hw16 : (Qd p).length = 16 := by simp [Qd]
   refine lp qi (fun t : Nat => t ≤ 80) (fun t => ⟨[(2, ptr b2), (3, ptr b3), (5, .slice (some ⟨tb, 0, none⟩) 80 80), (7, .slice (some ⟨xb, 0, none⟩) pt.length cap), (8, .int .i64 (128 * k : Nat)), (9, ptr b9), (10, .int .i64 t)], [cl b2 (List.replicate 64 (Value.int .u8 0)).toArray 74, cl b3 ((QL pt k).l.map uv).toArray 96, cl tb (ktab.map uv).toArray 34, cl xb (Lib.byteCells pt ++ jj).toArray 5, cl b9 (qR (wt p t) (80 - t)) 157], []⟩) (fun t => 80 - t) 0 (Nat.zero_le _)
    ⟨⟨rfl, rfl, rfl, rfl, rfl, rfl, rfl, trivial⟩, .cons (.cons (.cons (.cons (.cons .nil)))), rfl⟩ ?_
   intro t ht
   have hwl := wt_len p t
   refine cd (fun h => ?_) (fun h => ?_)
   · have htl : t < 80 := by omega
     refine cd (fun h16 => ?_) (fun h16 => ?_)
     · have hl16 : t < 16 := by omega
       have hz0 : qR (wt p t) (80 - t) = qR (wt p t ++ [be (((p.drop (8 * t)).take 8).take 0)]) (79 - t) := by
        rw [show 80 - t = 79 - t + 1 by omega, wc_zero]; rfl
       rw [hz0]
       refine lp qi (fun i : Nat => i ≤ 8) (fun i => ⟨[(2, ptr b2), (3, ptr b3), (5, .slice (some ⟨tb, 0, none⟩) 80 80), (7, .slice (some ⟨xb, 0, none⟩) pt.length cap), (8, .int .i64 (128 * k : Nat)), (9, ptr b9), (10, .int .i64 t), (11, .int .i64 i)], [cl b2 (List.replicate 64 (Value.int .u8 0)).toArray 74, cl b3 ((QL pt k).l.map uv).toArray 96, cl tb (ktab.map uv).toArray 34, cl xb (Lib.byteCells pt ++ jj).toArray 5, cl b9 (qR (wt p t ++ [be (((p.drop (8 * t)).take 8).take i)]) (79 - t)) 157], []⟩) (fun i => 8 - i) 0 (Nat.zero_le _)
        ⟨⟨rfl, rfl, rfl, rfl, rfl, rfl, rfl, rfl, trivial⟩, .cons (.cons (.cons (.cons (.cons .nil)))), rfl⟩ ?_
       intro i hi
       refine cd (fun h => ?_) (fun h => ?_)
       · have hi8 : i < 8 := by omega
         refine drs [cl b2 (List.replicate 64 (Value.int .u8 0)).toArray 74, cl b3 ((QL pt k).l.map uv).toArray 96, cl tb (ktab.map uv).toArray 34, cl xb (Lib.byteCells pt ++ jj).toArray 5, cl b9 (qR (wt p t ++ [be (((p.drop (8 * t)).take 8).take i)]) (79 - t)) 157] [17] (.t 0 (.t 1 (.t 2 (.t 3 (.t 4 (.t 5 (.t 6 (.t 7 (.t 8 (.t 9 (.t 10 (.t 11 (.t 12 (.t 13 (.t 14 (.t 15 (.t 16 (.n 17 .nil)))))))))))))))))) qi qq (by kernel_rfl) (.cons (.cons (.cons (.cons (.cons .nil))))) ?_
         refine ⟨by omega, by omega, ?_⟩
         refine ld1 4 rfl (v := uv (be (((p.drop (8 * t)).take 8).take i))) (by rw [qK, qI, Nat.zero_add, Nat.mul_one, Int.toNat_natCast]; rw [qal _ _ _ (by rw [List.length_append, hwl]; simp)]; simp [hwl]) ?_
         refine .to (ux (be (((p.drop (8 * t)).take 8).take i) * BitVec.ofNat 64 256)) (u_mul _ 256 (by decide)) ?_
         refine .as ((8 * t : Nat) : Int) (by omega) (by simp only [mn]; omega) (by simp only [mx]; omega) ?_
         refine .as ((128 * k + 8 * t : Nat) : Int) (by omega) (by simp only [mn]; omega) (by simp only [mx]; omega) ?_
         refine .as ((128 * k + (8 * t + i) : Nat) : Int) (by omega) (by simp only [mn]; omega) (by simp only [mx]; omega) ?_
         refine ⟨by omega, by omega, ?_⟩
         refine ld1 3 rfl (v := .int .u8 (p.getD (8 * t + i) 0).toNat) (by rw [qK, qI, Nat.zero_add, Nat.mul_one, Int.toNat_natCast]; exact hpc _ (by omega)) ?_
         have hb := (p.getD (8 * t + i) 0).toNat_lt
         refine .same (by simp only [mn]; omega) (by simp only [mx]; omega) ?_
         have hbe : be (((p.drop (8 * t)).take 8).take (i + 1)) = bw (be (((p.drop (8 * t)).take 8).take i)) (p.getD (8 * t + i) 0) := by
          rw [chunk_at p hpl (8 * t) i (by omega) hi8, be_snoc]
         refine .to (ux (be (((p.drop (8 * t)).take 8).take (i + 1)))) (by rw [hbe, ← bw_add, ← ux_byte]; exact QM _ _) ?_
         refine ⟨by omega, by omega, ?_⟩
         refine s1 4 rfl (by rw [qK, qI, Nat.zero_add, Nat.mul_one, Int.toNat_natCast]; simp [qR, hwl]) ?_
         refine .as ((i + 1 : Nat) : Int) (by omega) (by simp only [mn]; omega) (by simp only [mx]; omega) ?_
         have hE : qR (wt p t ++ [be (((p.drop (8 * t)).take 8).take (i + 1))]) (79 - t) = (qR (wt p t ++ [be (((p.drop (8 * t)).take 8).take i)]) (79 - t)).setIfInBounds (nad 0 (nmu (Int.toNat (t : Int)) 1)) (uv (be (((p.drop (8 * t)).take 8).take (i + 1)))) := by
          rw [qK, qI, Nat.zero_add, Nat.mul_one, Int.toNat_natCast]; rw [← wc_set _ (be (((p.drop (8 * t)).take 8).take i)), hwl]
         refine ⟨i + 1, by omega, by omega, ?_⟩
         simp only [hE]
         exact ⟨⟨rfl, rfl, rfl, rfl, rfl, rfl, rfl, rfl, trivial⟩, .cons (.cons (.cons (.cons (.cons .nil)))), rfl⟩
       · obtain rfl : i = 8 := by omega
         have hE : qR (wt p (t + 1)) (80 - (t + 1)) = qR (wt p t ++ [be (((p.drop (8 * t)).take 8).take 8)]) (79 - t) := by
          rw [wt_low p (t + 1) (by omega), wt_low p t (by omega), qcy p hpl t hl16, List.take_take, show 80 - (t + 1) = 79 - t by omega]; rfl
         refine .as ((t + 1 : Nat) : Int) (by omega) (by simp only [mn]; omega) (by simp only [mx]; omega) ?_
         refine ⟨t + 1, by omega, by omega, ?_⟩
         simp only [hE]
         exact ⟨⟨rfl, rfl, rfl, rfl, rfl, rfl, rfl, trivial⟩, .cons (.cons (.cons (.cons (.cons .nil)))), rfl⟩
     · have h16' : 16 ≤ t := by omega
       refine .as ((t - 2 : Nat) : Int) (by omega) (by simp only [mn]; omega) (by simp only [mx]; omega) ?_
       refine ⟨by omega, by omega, ?_⟩
       refine ld1 4 rfl (v := uv ((wt p t).getD (t - 2) 0)) (by rw [qK, qI, Nat.zero_add, Nat.mul_one, Int.toNat_natCast]; exact qal _ _ _ (by omega)) ?_
       refine .as ((t - 15 : Nat) : Int) (by omega) (by simp only [mn]; omega) (by simp only [mx]; omega) ?_
       refine ⟨by omega, by omega, ?_⟩
       refine ld1 4 rfl (v := uv ((wt p t).getD (t - 15) 0)) (by rw [qK, qI, Nat.zero_add, Nat.mul_one, Int.toNat_natCast]; exact qal _ _ _ (by omega)) ?_
       have hnx : qby (wt p t) = qbb ((wt p t).getD (t - 2) 0) 19 61 6 true + (wt p t).getD (t - 7) 0 + qbb ((wt p t).getD (t - 15) 0) 1 8 7 true + (wt p t).getD (t - 16) 0 := by unfold qby; rw [hwl]
       generalize hX : (wt p t).getD (t - 2) 0 = X at *
       generalize hY : (wt p t).getD (t - 15) 0 = Y at *
       refine drs [dead, dead, dead, dead, cl b9 (qR (wt p t) (80 - t)) 157] [29] (.t 0 (.t 1 (.t 2 (.t 3 (.t 4 (.t 5 (.t 6 (.t 7 (.t 8 (.t 9 (.t 10 (.t 11 (.t 12 (.t 13 (.t 14 (.t 15 (.t 16 (.t 17 (.t 18 (.t 19 (.t 20 (.t 21 (.t 22 (.t 23 (.t 24 (.t 25 (.t 26 (.t 27 (.t 28 (.n 29 .nil)))))))))))))))))))))))))))))) qi qq (by kernel_rfl) (.dead (.dead (.dead (.dead (.cons .nil))))) ?_
       refine cz (fun w => zd X 19 (by decide) (by decide) w) ?_
       refine cz (fun w => zd X 61 (by decide) (by decide) w) ?_
       refine ⟨by decide, ?_⟩
       refine .as ((t - 7 : Nat) : Int) (by omega) (by simp only [mn]; omega) (by simp only [mx]; omega) ?_
       refine ⟨by omega, by omega, ?_⟩
       refine ld1 4 rfl (v := uv ((wt p t).getD (t - 7) 0)) (by rw [qK, qI, Nat.zero_add, Nat.mul_one, Int.toNat_natCast]; exact qal _ _ _ (by omega)) ?_
       refine .to (ux (qbb X 19 61 6 true + (wt p t).getD (t - 7) 0)) (by rw [qam, qcz X 6 (by decide) 6 rfl, qam]; exact QM _ _) ?_
       refine cz (fun w => zd Y 1 (by decide) (by decide) w) ?_
       refine cz (fun w => zd Y 8 (by decide) (by decide) w) ?_
       refine ⟨by decide, ?_⟩
       refine .to (ux (qbb X 19 61 6 true + (wt p t).getD (t - 7) 0 + qbb Y 1 8 7 true)) (by rw [qam, qcz Y 7 (by decide) 7 rfl, qam]; exact QM _ _) ?_
       refine .as ((t - 16 : Nat) : Int) (by omega) (by simp only [mn]; omega) (by simp only [mx]; omega) ?_
       refine ⟨by omega, by omega, ?_⟩
       refine ld1 4 rfl (v := uv ((wt p t).getD (t - 16) 0)) (by rw [qK, qI, Nat.zero_add, Nat.mul_one, Int.toNat_natCast]; exact qal _ _ _ (by omega)) ?_
       refine .to (ux (qby (wt p t))) (by rw [hnx]; exact QM _ _) ?_
       refine ⟨by omega, by omega, ?_⟩
       refine s1 4 rfl (by rw [qK, qI, Nat.zero_add, Nat.mul_one, Int.toNat_natCast]; simp [qR, hwl]; omega) ?_
       have hE : qR (wt p (t + 1)) (80 - (t + 1)) = (qR (wt p t) (80 - t)).setIfInBounds (nad 0 (nmu (Int.toNat (t : Int)) 1)) (uv (qby (wt p t))) := by
        rw [qK, qI, Nat.zero_add, Nat.mul_one, Int.toNat_natCast]; rw [wt_next p t h16', show 80 - t = 79 - t + 1 by omega, wc_zero, show 80 - (t + 1) = 79 - t by omega, ← wc_set (wt p t) 0, hwl]
       refine .as ((t + 1 : Nat) : Int) (by omega) (by simp only [mn]; omega) (by simp only [mx]; omega) ?_
       refine ⟨t + 1, by omega, by omega, ?_⟩
       simp only [hE]
       exact ⟨⟨rfl, rfl, rfl, rfl, rfl, rfl, rfl, trivial⟩, .cons (.cons (.cons (.cons (.cons .nil)))), rfl⟩
   · obtain rfl : t = 80 := by omega
     have hW : wt p 80 = QQ 64 (Qd p) := wt_high p 80 (by decide)
     have hgl : (QQ 64 (Qd p)).length = 80 := by rw [qb2, hw16]
     rw [hW] at *
     generalize QQ 64 (Qd p) = ws at *
     generalize QL pt k = s at *
     refine ldN 1 rfl rfl ?_
     intro b14
     refine sN 5 rfl rfl rfl ?_ (by kernel_rfl)
     refine lp qi (fun t : Nat => t ≤ 80) (fun t => ⟨[(2, ptr b2), (3, ptr b3), (5, .slice (some ⟨tb, 0, none⟩) 80 80), (7, .slice (some ⟨xb, 0, none⟩) pt.length cap), (8, .int .i64 (128 * k : Nat)), (9, ptr b9), (14, ptr b14), (15, .int .i64 t)], [cl b2 (List.replicate 64 (Value.int .u8 0)).toArray 74, cl b3 (s.l.map uv).toArray 96, cl tb (ktab.map uv).toArray 34, cl xb (Lib.byteCells pt ++ jj).toArray 5, cl b9 (qR ws 0) 157, cl b14 ((ZJ ktab ws s t).l.map uv).toArray 96], []⟩) (fun t => 80 - t) 0 (Nat.zero_le _)
      ⟨⟨rfl, rfl, rfl, rfl, rfl, rfl, rfl, rfl, trivial⟩, .cons (.cons (.cons (.cons (.cons (.cons .nil))))), rfl⟩ ?_
     intro t ht
     refine cd (fun h => ?_) (fun h => ?_)
     · have htl : t < 80 := by omega
       have hst : ZJ ktab ws s (t + 1) = rnd (ZJ ktab ws s t) (ktab.getD t 0) (ws.getD t 0) := rfl
       generalize ZJ ktab ws s t = st at *
       generalize hK : ktab.getD t 0 = K at *
       generalize hV : ws.getD t 0 = V at *
       refine ⟨by decide, by decide, ld1 5 rfl (v := uv st.e) rfl ?_⟩
       refine ⟨by decide, by decide, ld1 5 rfl (v := uv st.a) rfl ?_⟩
       refine drs [dead, dead, cl tb (ktab.map uv).toArray 34, dead, cl b9 (qR ws 0) 157, cl b14 (st.l.map uv).toArray 96] [] (.t 0 (.t 1 (.t 2 (.t 3 (.t 4 (.t 5 (.t 6 (.t 7 (.t 8 (.t 9 (.t 10 (.t 11 (.t 12 (.t 13 (.t 14 (.t 15 (.t 16 (.t 17 (.t 18 (.t 19 (.t 20 (.t 21 (.t 22 (.t 23 (.t 24 (.t 25 (.t 26 (.t 27 (.t 28 (.t 29 (.t 30 (.t 31 .nil)))))))))))))))))))))))))))))))) qi qq (by kernel_rfl) (.dead (.dead (.cons (.dead (.cons (.cons .nil)))))) ?_
       refine ⟨by decide, by decide, ld1 5 rfl (v := uv st.h) rfl ?_⟩
       refine cz (fun w => zd st.e 14 (by decide) (by decide) w) ?_
       refine cz (fun w => zd st.e 18 (by decide) (by decide) w) ?_
       refine cz (fun w => zd st.e 41 (by decide) (by decide) w) ?_
       refine .to (ux (st.h + qbb st.e 14 18 41 false)) (by rw [qam, qam]; exact QM _ _) ?_
       refine ⟨by decide, by decide, ld1 5 rfl (v := uv st.f) rfl ?_⟩
       refine .as (ux (~~~st.e)) (u_neg _) (ux_lt _).1 (by have := (ux_lt (~~~st.e)).2; simp only [mx]; omega) ?_
       refine ⟨by decide, by decide, ld1 5 rfl (v := uv st.g) rfl ?_⟩
       refine .to (ux (st.e &&& st.f ||| ~~~st.e &&& st.g)) (by rw [qaZ, qaZ, ← ch_add]; exact QM _ _) ?_
       refine .to _ (QM _ _) ?_
       refine ⟨by omega, by omega, ?_⟩
       refine ld1 2 rfl (v := uv K) (by rw [qK, qI, Nat.zero_add, Nat.mul_one, Int.toNat_natCast]; rw [← hK]; exact tb_at _ _ (by rw [ktab_len]; omega)) ?_
       refine .to _ (QM _ _) ?_
       refine ⟨by omega, by omega, ?_⟩
       refine ld1 4 rfl (v := uv V) (by rw [qK, qI, Nat.zero_add, Nat.mul_one, Int.toNat_natCast]; rw [← hV]; exact qal _ _ _ (by omega)) ?_
       refine .to (ux (rndU st K V)) (QM _ _) ?_
       refine drs [dead, dead, dead, dead, dead, cl b14 (st.l.map uv).toArray 96] [] (.t 0 (.t 1 (.t 2 (.t 3 (.t 4 (.t 5 (.t 6 (.t 7 (.t 8 (.t 9 (.t 10 (.t 11 (.t 12 (.t 13 (.t 14 (.t 15 (.t 16 (.t 17 (.t 18 (.t 19 (.t 20 (.t 21 (.t 22 (.t 23 (.t 24 .nil))))))))))))))))))))))))) qi qq (by kernel_rfl) (.dead (.dead (.dead (.dead (.dead (.cons .nil)))))) ?_
       refine cz (fun w => zd st.a 28 (by decide) (by decide) w) ?_
       refine cz (fun w => zd st.a 34 (by decide) (by decide) w) ?_
       refine cz (fun w => zd st.a 39 (by decide) (by decide) w) ?_
       refine ⟨by decide, by decide, ld1 5 rfl (v := uv st.b) rfl ?_⟩
       refine ⟨by decide, by decide, ld1 5 rfl (v := uv st.c) rfl ?_⟩
       refine ⟨by decide, by decide, ld1 5 rfl (v := uv st.b) rfl ?_⟩
       refine ⟨by decide, by decide, ld1 5 rfl (v := uv st.c) rfl ?_⟩
       refine .to (ux (rndV st)) (by rw [qam, qam, qaZ, qaZ, u_or, qaZ, u_or]; exact QM _ _) ?_
       refine .to _ (QM _ _) ?_
       refine ⟨by decide, by decide, ld1 5 rfl (v := uv st.a) rfl ?_⟩
       refine ⟨by decide, by decide, ld1 5 rfl (v := uv st.b) rfl ?_⟩
       refine ⟨by decide, by decide, ld1 5 rfl (v := uv st.c) rfl ?_⟩
       refine ⟨by decide, by decide, ld1 5 rfl (v := uv st.d) rfl ?_⟩
       refine .to _ (QM _ _) ?_
       refine ⟨by decide, by decide, ld1 5 rfl (v := uv st.e) rfl ?_⟩
       refine ⟨by decide, by decide, ld1 5 rfl (v := uv st.f) rfl ?_⟩
       refine ⟨by decide, by decide, ld1 5 rfl (v := uv st.g) rfl ?_⟩
       refine bu (c := ((rnd st K V).l.map uv).toArray) (by kernel_rfl) ?_
       refine sN 5 rfl (h8_size _ _) (h8_one _) ?_ (by kernel_rfl)
       refine .as ((t + 1 : Nat) : Int) (by omega) (by simp only [mn]; omega) (by simp only [mx]; omega) ?_
       refine ⟨t + 1, by omega, by omega, ?_⟩
       simp only [hst]
       exact ⟨⟨rfl, rfl, rfl, rfl, rfl, rfl, rfl, rfl, trivial⟩, .cons (.cons (.cons (.cons (.cons (.cons .nil))))), rfl⟩
     · obtain rfl : t = 80 := by omega
       generalize ZJ ktab ws s 80 = r at *
       refine lp qi (fun i : Nat => i ≤ 8) (fun i => ⟨[(2, ptr b2), (3, ptr b3), (5, .slice (some ⟨tb, 0, none⟩) 80 80), (7, .slice (some ⟨xb, 0, none⟩) pt.length cap), (8, .int .i64 (128 * k : Nat)), (9, ptr b9), (14, ptr b14), (20, .int .i64 i)], [cl b2 (List.replicate 64 (Value.int .u8 0)).toArray 74, cl b3 (((s.add r).l.map uv).take i ++ (s.l.map uv).drop i).toArray 96, cl tb (ktab.map uv).toArray 34, cl xb (Lib.byteCells pt ++ jj).toArray 5, cl b9 (qR ws 0) 157, cl b14 (r.l.map uv).toArray 96], []⟩) (fun i => 8 - i) 0 (Nat.zero_le _)
        ⟨⟨rfl, rfl, rfl, rfl, rfl, rfl, rfl, rfl, trivial⟩, .cons (.cons (.cons (.cons (.cons (.cons .nil))))), rfl⟩ ?_
       intro i hi
       refine cd (fun h => ?_) (fun h => ?_)
       · have hlt : i < 8 := by omega
         refine drs [cl b2 (List.replicate 64 (Value.int .u8 0)).toArray 74, cl b3 (((s.add r).l.map uv).take i ++ (s.l.map uv).drop i).toArray 96, cl tb (ktab.map uv).toArray 34, cl xb (Lib.byteCells pt ++ jj).toArray 5, cl b9 (qR ws 0) 157, cl b14 (r.l.map uv).toArray 96] [9] (.t 0 (.t 1 (.t 2 (.t 3 (.t 4 (.t 5 (.t 6 (.t 7 (.t 8 (.n 9 .nil)))))))))) qi qq (by kernel_rfl) (.cons (.cons (.cons (.cons (.cons (.cons .nil)))))) ?_
         refine ⟨by omega, by omega, ?_⟩
         refine ld1 1 rfl (v := uv (s.l.getD i 0)) (by rw [qK, qI, Nat.zero_add, Nat.mul_one, Int.toNat_natCast]; rw [List.getElem?_toArray, get_step _ _ _ (by simp [H8.l]; omega), ← List.getElem?_toArray]; exact qa4 s i hlt) ?_
         refine ⟨by omega, by omega, ?_⟩
         refine ld1 5 rfl (v := uv (r.l.getD i 0)) (by rw [qK, qI, Nat.zero_add, Nat.mul_one, Int.toNat_natCast]; exact qa4 r i hlt) ?_
         refine .to _ (QM _ _) ?_
         refine ⟨by omega, by omega, ?_⟩
         refine s1 1 rfl (by rw [qK, qI, Nat.zero_add, Nat.mul_one, Int.toNat_natCast]; simp [H8.l]; omega) ?_
         have hE : (((s.add r).l.map uv).take (i + 1) ++ (s.l.map uv).drop (i + 1)).toArray = (((s.add r).l.map uv).take i ++ (s.l.map uv).drop i).toArray.setIfInBounds (nad 0 (nmu (Int.toNat (i : Int)) 1)) (uv (s.l.getD i 0 + r.l.getD i 0)) := by
          rw [qK, qI, Nat.zero_add, Nat.mul_one, Int.toNat_natCast]; rw [List.setIfInBounds_toArray, ← add_at s r i hlt, Zd _ _ _ (by simp [H8.l]) i (by simp [H8.l]; omega) (by rw [← List.getElem?_toArray]; exact qa4 _ i hlt)]
         refine .as ((i + 1 : Nat) : Int) (by omega) (by simp only [mn]; omega) (by simp only [mx]; omega) ?_
         refine ⟨i + 1, by omega, by omega, ?_⟩
         rw [hE]
         exact ⟨⟨rfl, rfl, rfl, rfl, rfl, rfl, rfl, rfl, trivial⟩, .cons (.cons (.cons (.cons (.cons (.cons .nil))))), rfl⟩
       · obtain rfl : i = 8 := by omega
         have hE : (((s.add r).l.map uv).take 8 ++ (s.l.map uv).drop 8).toArray = ((s.add r).l.map uv).toArray := rfl
         rw [hE, ← hpn]
         refine .as ((128 * (k + 1) : Nat) : Int) (by omega) (by simp only [mn]; omega) (by simp only [mx]; omega) ?_
         exact ⟨k + 1, by omega, by omega, ⟨rfl, rfl, rfl, rfl, rfl, trivial⟩, .cons (.cons (.cons (.cons .nil))), rfl⟩
 · obtain rfl : k = q := by omega
   generalize QL pt k = S at *
   intro b21
   have hol : (Lib.byteCells (qaW S)).length = 64 := by rw [Lib.byteCells_length, outB_len]
   refine lp qi (fun i : Nat => i ≤ 64) (fun i => ⟨[(2, ptr b2), (3, ptr b3), (21, ptr b21), (22, .int .i64 i)], [cl b2 (List.replicate 64 (Value.int .u8 0)).toArray 74, cl b3 (S.l.map uv).toArray 96, cl b21 ((Lib.byteCells (qaW S)).take i ++ (List.replicate 64 (Value.int .u8 0)).drop i).toArray 74], []⟩) (fun i => 64 - i) 0 (Nat.zero_le _)
    ⟨⟨rfl, rfl, rfl, rfl, trivial⟩, .cons (.cons (.drop (.drop (.cons .nil)))), rfl⟩ ?_
   intro i hi
   refine cd (fun h => ?_) (fun h => ?_)
   · have hlt : i < 64 := by omega
     have hbyte : (Lib.byteCells (qaW S))[i]? = some (.int .u8 (UInt8.ofNat ((S.l.getD (i / 8) 0).toNat / 2 ^ (56 - 8 * (i % 8)) % 256)).toNat) := by
      unfold Lib.byteCells; rw [List.getElem?_map, outB_at S i hlt]; rfl
     refine ⟨by omega, by simp only [mx]; omega, by decide, ?_⟩
     refine ⟨by omega, by omega, ?_⟩
     refine ld1 1 rfl (v := uv (S.l.getD (i / 8) 0)) (by rw [qK, qI, Nat.zero_add, Nat.mul_one, show Int.toNat ((i : Int) / 8) = i / 8 by omega]; exact qa4 S _ (by omega)) ?_
     refine ⟨by omega, by simp only [mx]; omega, by decide, ?_⟩
     refine .as ((7 - i % 8 : Nat) : Int) (by omega) (by simp only [mn]; omega) (by simp only [mx]; omega) ?_
     refine .as ((56 - 8 * (i % 8) : Nat) : Int) (by omega) (by simp only [mn]; omega) (by simp only [mx]; omega) ?_
     refine .same (by simp only [mn]; omega) (by simp only [mx]; omega) ?_
     refine ⟨by omega, ?_⟩
     refine .to ((UInt8.ofNat ((S.l.getD (i / 8) 0).toNat / 2 ^ (56 - 8 * (i % 8)) % 256)).toNat : Int) (by rw [qcz _ (56 - 8 * (i % 8)) (by omega) _ rfl]; exact qdF _ _) ?_
     refine ⟨by omega, by omega, ?_⟩
     refine s1 2 rfl (by rw [qK, qI, Nat.zero_add, Nat.mul_one, Int.toNat_natCast]; simp [hol]; omega) ?_
     have hE : ((Lib.byteCells (qaW S)).take (i + 1) ++ (List.replicate 64 (Value.int .u8 0)).drop (i + 1)).toArray = ((Lib.byteCells (qaW S)).take i ++ (List.replicate 64 (Value.int .u8 0)).drop i).toArray.setIfInBounds (nad 0 (nmu (Int.toNat (i : Int)) 1)) (.int .u8 (UInt8.ofNat ((S.l.getD (i / 8) 0).toNat / 2 ^ (56 - 8 * (i % 8)) % 256)).toNat) := by
      rw [qK, qI, Nat.zero_add, Nat.mul_one, Int.toNat_natCast]; rw [List.setIfInBounds_toArray, Zd _ _ _ (by rw [hol]; rfl) i (by omega) hbyte]
     refine .as ((i + 1 : Nat) : Int) (by omega) (by simp only [mn]; omega) (by simp only [mx]; omega) ?_
     refine ⟨i + 1, by omega, by omega, ?_⟩
     rw [hE]
     exact ⟨⟨rfl, rfl, rfl, rfl, trivial⟩, .cons (.cons (.cons .nil)), rfl⟩
   · obtain rfl : i = 64 := by omega
     have hE : ((Lib.byteCells (qaW S)).take 64 ++ (List.replicate 64 (Value.int .u8 0)).drop 64).toArray = (Lib.byteCells (qaW S)).toArray := by
      rw [List.take_of_length_le (by omega)]; simp
     rw [hE]
     refine ldN 2 rfl (by simp [hol]) ?_
     refine sN 0 rfl (by simp [hol]) (QS _) ?_ (by kernel_rfl)
     refine ldN 0 rfl (by simp [hol]) ?_
     exact rt rfl
end
end Go.Proofs.Ytjiagjonlcadiaa
section
namespace Go.Proofs.Ytjiagjonlcadiaa
open Go.RowKit Go.Lib
theorem add64 (x y c : Int) (hx : 0 ≤ x) (hy : 0 ≤ y) (hc0 : 0 ≤ c) (hc : c ≤ 1) (w : World) : (callFunc 76 #[.int .u64 x, .int .u64 y, .int .u64 c]).run Try.prog w =
 .ok (.value (.tuple #[.int .u64 ((x + y + c) % 18446744073709551616), .int .u64 ((x + y + c) / 18446744073709551616)])) w := by
 rw [run_callFunc_extern Try.func76 (by kernel_rfl) (by kernel_rfl) (by kernel_rfl) (e := add64Entry) (by kernel_rfl), run_add64 x y c hx hy hc0 hc]
 rfl
def sub64Ent : Array Value → Sem Value := fun args => do
 let (x, y, b) ← Extern.MathBitsCarry.three "Sub64" args
 pure (Extern.MathBitsCarry.pair ((x + Extern.MathBitsCarry.m64 - y - b) % Extern.MathBitsCarry.m64) (if x < y + b then 1 else 0))
def bor (x y : Int) : Int := if x < y then 1 else 0
theorem bor_01 (x y : Int) : 0 ≤ bor x y ∧ bor x y ≤ 1 := by unfold bor; split <;> omega
theorem run_sub64n (x y b : Nat) (hb : b ≤ 1) (w : World) :
 (sub64Ent #[.int .u64 x, .int .u64 y, .int .u64 b]).run Try.prog w =
  .ok (.tuple #[.int .u64 (((x + 18446744073709551616 - y - b) % 18446744073709551616 : Nat) : Int), .int .u64 ((if x < y + b then 1 else 0 : Nat) : Int)]) w := by
 have : b = 0 ∨ b = 1 := by omega
 rcases this with rfl | rfl <;> rfl
theorem sub64 (x y b : Int) (hx : 0 ≤ x) (hy : 0 ≤ y) (hy' : y < 18446744073709551616) (hb0 : 0 ≤ b) (hb : b ≤ 1) (w : World) : (callFunc 80 #[.int .u64 x, .int .u64 y, .int .u64 b]).run Try.prog w =
 .ok (.value (.tuple #[.int .u64 ((x - y - b) % 18446744073709551616), .int .u64 (bor x (y + b))])) w := by
 obtain ⟨x, rfl⟩ := Int.eq_ofNat_of_zero_le hx
 obtain ⟨y, rfl⟩ := Int.eq_ofNat_of_zero_le hy
 obtain ⟨b, rfl⟩ := Int.eq_ofNat_of_zero_le hb0
 have e1 : (((x + 18446744073709551616 - y - b) % 18446744073709551616 : Nat) : Int) = ((x : Int) - y - b) % 18446744073709551616 := by omega
 have e2 : ((if x < y + b then 1 else 0 : Nat) : Int) = bor x (y + b) := by unfold bor; split <;> split <;> omega
 rw [← e1, ← e2, run_callFunc_extern Try.func80 (by kernel_rfl) (by kernel_rfl) (by kernel_rfl) (e := sub64Ent) (by kernel_rfl), run_sub64n x y b (by omega)]
 rfl
theorem qbJ (x y : Int) (hx : 0 ≤ x) (hy : 0 ≤ y) (w : World) : (callFunc 76 #[.int .u64 x, .int .u64 y, .int .u64 0]).run Try.prog w =
 .ok (.value (.tuple #[.int .u64 ((x + y) % 18446744073709551616), .int .u64 ((x + y) / 18446744073709551616)])) w := by
 simpa using add64 x y 0 hx hy (Int.le_refl 0) (by decide) w
theorem sub64_0 (x y : Int) (hx : 0 ≤ x) (hy : 0 ≤ y) (hy' : y < 18446744073709551616) (w : World) : (callFunc 80 #[.int .u64 x, .int .u64 y, .int .u64 0]).run Try.prog w =
 .ok (.value (.tuple #[.int .u64 ((x - y) % 18446744073709551616), .int .u64 (bor x y)])) w := by
 simpa using sub64 x y 0 hx hy hy' (Int.le_refl 0) (by decide) w
namespace M64
theorem maskN (a : Nat) (ha : a < 18446744073709551616) : bits .and .u64 (a : Int) 4294967295 = ((a % 4294967296 : Nat) : Int) := by
 have h := bits_and_u64_nat a 4294967295 ha (by omega)
 have e : a &&& 4294967295 = a % 4294967296 := Nat.and_two_pow_sub_one_eq_mod a 32
 rw [e] at h
 exact h
theorem divN (a : Nat) : (a : Int) / 4294967296 = ((a / 4294967296 : Nat) : Int) := by omega
theorem mulN (a b : Nat) : (a : Int) * (b : Int) = ((a * b : Nat) : Int) := (Int.natCast_mul a b).symm
theorem addN (a b : Nat) : (a : Int) + (b : Int) = ((a + b : Nat) : Int) := (Int.natCast_add a b).symm
theorem wrapN (a : Nat) (ha : a < 18446744073709551616) : IntKind.u64.wrap (a : Int) = (a : Int) := by rw [IntKind.wrap_u64]; omega
theorem wrapM (a : Nat) : IntKind.u64.wrap (a : Int) = ((a % 18446744073709551616 : Nat) : Int) := by rw [IntKind.wrap_u64]; omega
end M64
theorem mul64N (x y : Nat) (hx : x < 18446744073709551616) (hy : y < 18446744073709551616) (w : World) :
 Calls Try.prog 75 #[.int .u64 x, .int .u64 y] w fun e w' => e = .returned (.tuple #[.int .u64 ((x * y / 18446744073709551616 : Nat) : Int), .int .u64 ((x * y % 18446744073709551616 : Nat) : Int)]) ∧ w = w' := by
 obtain ⟨bd, bt, bw, hhi⟩ := Lib.mul64_hi x y hx hy
 have ba := Lib.half_mul_le (a := x / 4294967296) (b := y / 4294967296) (by omega) (by omega)
 have bb := Lib.half_mul_le (a := x / 4294967296) (b := y % 4294967296) (by omega) (by omega)
 have bc := Lib.half_mul_le (a := x % 4294967296) (b := y / 4294967296) (by omega) (by omega)
 have ba' : x / 4294967296 * (y / 4294967296) < 18446744073709551616 := by omega
 have bb' : x / 4294967296 * (y % 4294967296) < 18446744073709551616 := by omega
 have bc' : x % 4294967296 * (y / 4294967296) < 18446744073709551616 := by omega
 have bh1 : x / 4294967296 * (y / 4294967296) + (x / 4294967296 * (y % 4294967296) + x % 4294967296 * (y % 4294967296) / 4294967296) / 4294967296 < 18446744073709551616 := by omega
 have bh : x / 4294967296 * (y / 4294967296) + (x / 4294967296 * (y % 4294967296) + x % 4294967296 * (y % 4294967296) / 4294967296) / 4294967296 + ((x / 4294967296 * (y % 4294967296) + x % 4294967296 * (y % 4294967296) / 4294967296) % 4294967296 + x % 4294967296 * (y / 4294967296)) / 4294967296 < 18446744073709551616 := by omega
 go_enter Try.func75, Try.ntmps75
 go_wp2
 simp only [M64.maskN x hx, M64.maskN y hy, M64.divN, M64.mulN, M64.addN, M64.wrapN _ bd, M64.wrapN _ bb', M64.wrapN _ bt, M64.maskN _ bt, M64.wrapN _ bc', M64.wrapN _ bw, M64.wrapN _ ba', M64.wrapN _ bh1, M64.wrapN _ bh, M64.wrapM (x * y)]
 rw [hhi]
 go_ret2
 exact ⟨rfl, rfl⟩
theorem mul64 (x y : Int) (hx0 : 0 ≤ x) (hx : x < 18446744073709551616) (hy0 : 0 ≤ y) (hy : y < 18446744073709551616) (w : World) :
 Calls Try.prog 75 #[.int .u64 x, .int .u64 y] w fun e w' => e = .returned (.tuple #[.int .u64 (x * y / 18446744073709551616), .int .u64 (x * y % 18446744073709551616)]) ∧ w = w' := by
 obtain ⟨x, rfl⟩ := Int.eq_ofNat_of_zero_le hx0
 obtain ⟨y, rfl⟩ := Int.eq_ofNat_of_zero_le hy0
 exact mul64N x y (by omega) (by omega) w
end Go.Proofs.Ytjiagjonlcadiaa
end
namespace Go.Proofs.Ytjiagjonlcadiaa
section
open Go.RowKit Go.Lib
def zu (kd : IntKind) (k : Nat) (f : Nat → Int) : List Value := (List.range k).map (fun i => Value.int kd (f i))
def row (kd : IntKind) (k : Nat) (f : Nat → Int) : Array Value := (zu kd k f).toArray
def upd (f : Nat → Int) (i : Nat) (x : Int) : Nat → Int := fun j => if j = i then x else f j
theorem qw (f : Nat → Int) (i : Nat) (x : Int) : upd f i x i = x := by simp [upd]
theorem qD (f : Nat → Int) (i j : Nat) (x : Int) (h : j ≠ i) : upd f i x j = f j := by simp [upd, h]
theorem Zf (kd : IntKind) (k : Nat) (f : Nat → Int) : (zu kd k f).length = k := by simp [zu]
theorem QJ (kd : IntKind) (k : Nat) (f : Nat → Int) (i : Nat) (h : i < k) : (row kd k f)[i]? = some (.int kd (f i)) := by
 simp [row, zu, h]
theorem QG (kd : IntKind) (k : Nat) (f : Nat → Int) : (row kd k f).size = k := by simp [row, zu]
theorem Zg (kd : IntKind) (k : Nat) (f : Nat → Int) (i : Nat) (h : ¬ i < k) : (row kd k f)[i]? = none := by
 simp [QG]; omega
theorem Qb (kd : IntKind) (k : Nat) (f g : Nat → Int) (h : ∀ i, i < k → f i = g i) : row kd k f = row kd k g := by
 apply Array.ext_getElem?
 intro j
 by_cases hj : j < k
 · rw [QJ kd k _ j hj, QJ kd k _ j hj, h j hj]
 · rw [Zg kd k _ j hj, Zg kd k _ j hj]
theorem qbp (kd : IntKind) (k : Nat) (f : Nat → Int) (i : Nat) (x : Int) : (row kd k f).setIfInBounds i (.int kd x) = row kd k (upd f i x) := by
 apply Array.ext_getElem?
 intro j
 rw [Array.getElem?_setIfInBounds]
 simp only [QG]
 by_cases hj : j < k
 · rw [QJ kd k _ j hj, QJ kd k _ j hj]
   unfold upd
   by_cases h : i = j
   · subst h; simp [hj]
   · have : ¬ j = i := fun e => h e.symm
     simp [h, this]
 · rw [Zg _ _ _ _ hj, Zg _ _ _ _ hj]; simp; omega
theorem qp (kd : IntKind) (k : Nat) (f : Nat → Int) : (row kd k f).all (·.oneCell') = true := by
 simp [row, zu, List.all_eq_true, Value.oneCell']
def Has (w : World) (b : Nat) (c : Array Value) (t : TypeId) : Prop := w.heap[b]? = some (.cells c t (0, 0))
section has
variable {w w' : World} {b : Nat} {c : Array Value} {t : TypeId}
theorem Has.lt (h : Has w b c t) : b < w.heap.size := (Array.getElem?_eq_some_iff.1 h).1
theorem Has.cellAt (h : Has w b c t) (i : Nat) : w.cell? ⟨b, i, none⟩ = c[i]? := cell_of_row w b i c t _ h
theorem Has.cell {kd : IntKind} {k : Nat} {f : Nat → Int} (h : Has w b (row kd k f) t) (i : Nat) (hi : i < k) : w.cell? ⟨b, i, none⟩ = some (.int kd (f i)) := by
 rw [h.cellAt, QJ kd k f i hi]
theorem Has.range {l : List Value} (h : Has w b l.toArray t) : w.rangeAt b 0 l := fun j v hv => by
 rw [Nat.zero_add, h.cellAt]; simpa using hv
theorem Has.frozen (h : Has w b c t) (i : Nat) : w.frozen? ⟨b, i, none⟩ = false := frozen_of_row w b i c t h
theorem Has.setAt (h : Has w b c t) (i : Nat) (v : Value) : Has (w.setCell ⟨b, i, none⟩ v) b (c.setIfInBounds i v) t := heap_setCell_same w b i c t v h
theorem Has.set {kd : IntKind} {k : Nat} {f : Nat → Int} (h : Has w b (row kd k f) t) (i : Nat) (x : Int) : Has (w.setCell ⟨b, i, none⟩ (.int kd x)) b (row kd k (upd f i x)) t := by
 have := h.setAt i (.int kd x)
 rwa [qbp] at this
theorem Has.other (h : Has w b c t) (a : Addr) (v : Value) (hb : b ≠ a.block) : Has (w.setCell a v) b c t := (heap_setCell_other w a b v hb).trans h
theorem Has.drewN (h : Has w b c t) (n : Nat) : Has (w.drewN n) b c t := h
theorem Has.drew (h : Has w b c t) : Has w.drew b c t := h
theorem Has.alloc (h : Has w b c t) (o : Obj) : Has (w.alloc o) b c t := (Below.heap_alloc w o b h.lt).trans h
theorem Has.new (w : World) (c : Array Value) (t : TypeId) : Has (w.alloc (.cells c t)) w.heap.size c t := heap_alloc_new w _
theorem Has.new1 (w : World) (A : Obj) (c : Array Value) (t : TypeId) : Has ((w.alloc A).alloc (.cells c t)) (w.heap.size + 1) c t := by
 have := Has.new (w.alloc A) c t
 simpa using this
theorem Has.new2 (w : World) (A B : Obj) (c : Array Value) (t : TypeId) : Has (((w.alloc A).alloc B).alloc (.cells c t)) (w.heap.size + 1 + 1) c t := by
 have := Has.new ((w.alloc A).alloc B) c t
 simpa using this
theorem Has.new3 (w : World) (A B C : Obj) (c : Array Value) (t : TypeId) : Has ((((w.alloc A).alloc B).alloc C).alloc (.cells c t)) (w.heap.size + 1 + 1 + 1) c t := by
 have := Has.new (((w.alloc A).alloc B).alloc C) c t
 simpa using this
theorem Has.below {B : Nat} (h : Has w b c t) (hb : Below B w w') (hB : b < B) : Has w' b c t := (hb.block b hB).trans h
theorem Has.setRow (h : Has w b c t) (c' : Array Value) : Has (w.setRow b c') b c' t := setRow_heap w b c c' t _ h
theorem Has.setRow_other (h : Has w b c t) (g : Nat) (c' : Array Value) (hg : b ≠ g) : Has (w.setRow g c') b c t := (Go.setRow_other w g b c' hg).trans h
end has
def HasN (w : World) (b n : Nat) (t : TypeId) : Prop := ∃ c : Array Value, c.size = n ∧ Has w b c t
section hasn
variable {w w' : World} {b n : Nat} {t : TypeId}
theorem Has.toN {c : Array Value} (h : Has w b c t) (hn : c.size = n) : HasN w b n t := ⟨c, hn, h⟩
theorem HasN.new (w : World) (c : Array Value) (t : TypeId) (n : Nat) (hn : c.size = n) : HasN (w.alloc (.cells c t)) w.heap.size n t := ⟨c, hn, Has.new w c t⟩
theorem HasN.new1 (w : World) (A : Obj) (c : Array Value) (t : TypeId) (n : Nat) (hn : c.size = n) : HasN ((w.alloc A).alloc (.cells c t)) (w.heap.size + 1) n t := by
 have := HasN.new (w.alloc A) c t n hn
 simpa using this
theorem HasN.new2 (w : World) (A B : Obj) (c : Array Value) (t : TypeId) (n : Nat) (hn : c.size = n) : HasN (((w.alloc A).alloc B).alloc (.cells c t)) (w.heap.size + 1 + 1) n t := by
 have := HasN.new ((w.alloc A).alloc B) c t n hn
 simpa using this
theorem HasN.new3 (w : World) (A B C : Obj) (c : Array Value) (t : TypeId) (n : Nat) (hn : c.size = n) : HasN ((((w.alloc A).alloc B).alloc C).alloc (.cells c t)) (w.heap.size + 1 + 1 + 1) n t := by
 have := HasN.new (((w.alloc A).alloc B).alloc C) c t n hn
 simpa using this
theorem HasN.lt (h : HasN w b n t) : b < w.heap.size := let ⟨_, _, h⟩ := h; h.lt
theorem HasN.other (h : HasN w b n t) (a : Addr) (v : Value) (hb : b ≠ a.block) : HasN (w.setCell a v) b n t := let ⟨c, hn, h⟩ := h; ⟨c, hn, h.other a v hb⟩
theorem HasN.drew (h : HasN w b n t) : HasN w.drew b n t := h
theorem HasN.alloc (h : HasN w b n t) (o : Obj) : HasN (w.alloc o) b n t := let ⟨c, hn, h⟩ := h; ⟨c, hn, h.alloc o⟩
theorem HasN.below {B : Nat} (h : HasN w b n t) (hb : Below B w w') (hB : b < B) : HasN w' b n t := let ⟨c, hn, h⟩ := h; ⟨c, hn, h.below hb hB⟩
theorem HasN.setRow_other (h : HasN w b n t) (g : Nat) (c' : Array Value) (hg : b ≠ g) : HasN (w.setRow g c') b n t := let ⟨c, hn, h⟩ := h; ⟨c, hn, h.setRow_other g c' hg⟩
end hasn
theorem Qc (w : World) (A : Obj) : Below w.heap.size w (w.alloc A) := (Below.refl _ _).alloc (Nat.le_refl _) _
theorem Qx (w : World) (A B : Obj) : Below w.heap.size w ((w.alloc A).alloc B) := (Qc w A).alloc (by simp) _
theorem QD (w : World) (A B C : Obj) : Below w.heap.size w (((w.alloc A).alloc B).alloc C) := (Qx w A B).alloc (by simp; omega) _
theorem qae (w : World) (A B C D : Obj) : Below w.heap.size w ((((w.alloc A).alloc B).alloc C).alloc D) := (QD w A B C).alloc (by simp; omega) _
theorem qN {B : Nat} {a w : World} (h : Below B a w) (n : Nat) : Below B a (w.drewN n) := ⟨h.os, h.tape, h.output, h.size, h.block⟩
theorem below_setRow {B : Nat} {a w : World} (h : Below B a w) (g : Nat) (c : Array Value) (hg : B ≤ g) : Below B a (w.setRow g c) :=
 h.trans ⟨rfl, rfl, rfl, by simp, fun k hk => setRow_other w g k c (by omega)⟩
theorem qh {w4 W w1 : World} (h : Below w4.heap.size w4 W) (hb : Below W.heap.size W w1) : Below w4.heap.size w4 w1 := h.trans (hb.mono h.size)
theorem Has.call {W w1 : World} {b : Nat} {c : Array Value} {t : TypeId} (h : Has W b c t) (hb : Below W.heap.size W w1) : Has w1 b c t := h.below hb h.lt
theorem HasN.call {W w1 : World} {b n : Nat} {t : TypeId} (h : HasN W b n t) (hb : Below W.heap.size W w1) : HasN w1 b n t := h.below hb h.lt
theorem Qv {w4 w1 : World} {b o : Nat} {l : List Value} (hR : w4.rangeAt b o l) (h : Below w4.heap.size w4 w1) (hlt : b < w4.heap.size) : w1.rangeAt b o l := fun j v hv =>
 (h.cell (p := ⟨b, o + j, none⟩) hlt).trans (hR j v hv)
theorem Ze (kd : IntKind) (k : Nat) (f : Nat → Int) : ∀ v ∈ zu kd k f, v.oneCell' = true := by
 simp [zu, Value.oneCell']
theorem qaX (b : Nat) (l : List Value) : ∀ (w : World) (o k : Nat), k ≠ b → (w.setCells b o l).heap[k]? = w.heap[k]? := by
 induction l with
 | nil => intro w o k _; rfl
 | cons v l ih => intro w o k hk; simp only [World.setCells]; rw [ih _ _ _ hk]; exact heap_setCell_other w ⟨b, o, none⟩ k v hk
theorem Has.setCells_other {w : World} {b : Nat} {c : Array Value} {t : TypeId} (h : Has w b c t) (g o : Nat) (l : List Value) (hb : b ≠ g) : Has (w.setCells g o l) b c t := (qaX g l w o b hb).trans h
theorem HasN.setCells_other {w : World} {b n : Nat} {t : TypeId} (h : HasN w b n t) (g o : Nat) (l : List Value) (hb : b ≠ g) : HasN (w.setCells g o l) b n t := let ⟨c, hn, h⟩ := h; ⟨c, hn, h.setCells_other g o l hb⟩
def qr (B : Int) (f : Nat → Int) : Nat → Int
 | 0 => 0
 | n + 1 => qr B f n + f n * B ^ n
theorem zi (B : Int) (f g : Nat → Int) (n : Nat) (h : ∀ i, i < n → f i = g i) : qr B f n = qr B g n := by
 induction n with
 | zero => rfl
 | succ n ih => simp only [qr]; rw [ih (fun i hi => h i (by omega)), h n (by omega)]
theorem qU (B : Int) (f : Nat → Int) (n i : Nat) (x : Int) (h : n ≤ i) : qr B (upd f i x) n = qr B f n :=
 zi B _ _ n fun j hj => qD f i j x (by omega)
theorem Qs (B : Int) (f : Nat → Int) (n i : Nat) (x : Int) (h : i < n) : qr B (upd f i x) n = qr B f n + (x - f i) * B ^ i := by
 induction n with
 | zero => omega
 | succ n ih =>
  simp only [qr]
  by_cases hi : i = n
  · subst hi
    rw [qU B f i i x (Nat.le_refl _), qw, Int.sub_mul]; omega
  · rw [ih (by omega), qD f i n x (by omega)]; omega
theorem Q6 (B : Int) (f : Nat → Int) (n : Nat) (h : ∀ i, i < n → f i = 0) : qr B f n = 0 := by
 induction n with
 | zero => rfl
 | succ n ih => simp only [qr]; rw [ih (fun i hi => h i (by omega)), h n (by omega)]; simp
theorem Qk (B : Int) (hB : 0 < B) (f : Nat → Int) (n : Nat) (h : ∀ i, i < n → 0 ≤ f i) : 0 ≤ qr B f n := by
 induction n with
 | zero => simp [qr]
 | succ n ih =>
  simp only [qr]
  have h1 := ih (fun i hi => h i (by omega))
  have h2 : 0 ≤ f n * B ^ n := Int.mul_nonneg (h n (by omega)) (Int.le_of_lt (Int.pow_pos hB))
  omega
theorem ZQ (B : Int) (hB : 0 < B) (f : Nat → Int) (n : Nat) (h : ∀ i, i < n → f i < B) : qr B f n < B ^ n := by
 induction n with
 | zero => simp [qr]
 | succ n ih =>
  simp only [qr]
  have h1 := ih (fun i hi => h i (by omega))
  have h2 : f n * B ^ n ≤ (B - 1) * B ^ n := Int.mul_le_mul_of_nonneg_right (by have := h n (by omega); omega) (Int.le_of_lt (Int.pow_pos hB))
  rw [Int.sub_mul] at h2
  rw [Int.pow_succ, Int.mul_comm (B ^ n) B]
  omega
def dg (B n i : Nat) : Int := ((n / B ^ i % B : Nat) : Int)
theorem zV (B n i : Nat) (hB : 0 < B) : 0 ≤ dg B n i ∧ dg B n i < B := by
 unfold dg
 have := Nat.mod_lt (n / B ^ i) hB
 omega
theorem Q7 (B n k : Nat) : qr (B : Int) (dg B n) k = ((n % B ^ k : Nat) : Int) := by
 induction k with
 | zero => simp [qr, Nat.mod_one]
 | succ k ih =>
  simp only [qr]
  rw [ih, dg, Nat.pow_succ, Nat.mod_mul, ← Int.natCast_pow, Int.mul_comm, ← Int.natCast_mul, ← Int.natCast_add]
theorem zo (B : Nat) (f : Nat → Int) (n k : Nat) (hf : ∀ i, i < k → 0 ≤ f i ∧ f i < B) (h : qr (B : Int) f k = n) : ∀ i, i < k → f i = dg B n i := by
 induction k generalizing n with
 | zero => intro i hi; omega
 | succ k ih =>
  intro i hi
  have hB : 0 < (B : Int) := by have := hf k (by omega); omega
  have hBk : (0 : Int) < (B : Int) ^ k := Int.pow_pos hB
  simp only [qr] at h
  have h1 := Qk B hB f k (fun i hi => (hf i (by omega)).1)
  have h2 := ZQ B hB f k (fun i hi => (hf i (by omega)).2)
  have hk := hf k (by omega)
  obtain ⟨s, hs⟩ := Int.eq_ofNat_of_zero_le h1
  obtain ⟨d, hd⟩ := Int.eq_ofNat_of_zero_le hk.1
  rw [hs, hd] at h
  rw [hs] at h2
  rw [← Int.natCast_pow] at h h2
  have h' : s + d * B ^ k = n := by
   have : ((s + d * B ^ k : Nat) : Int) = (n : Int) := by rw [Int.natCast_add, Int.natCast_mul]; exact h
   omega
  have h2' : s < B ^ k := by omega
  have hpos : 0 < B ^ k := by omega
  by_cases hik : i = k
  · subst hik
    rw [hd, dg, ← h', Nat.add_mul_div_right _ _ hpos, Nat.div_eq_of_lt h2', Nat.zero_add, Nat.mod_eq_of_lt (by omega)]
  · rw [ih s (fun i hi => hf i (by omega)) hs i (by omega), dg, dg, ← h']
    have e : B ^ k = B ^ i * B * B ^ (k - i - 1) := by rw [← Nat.pow_succ, ← Nat.pow_add]; congr 1; omega
    rw [e, show d * (B ^ i * B * B ^ (k - i - 1)) = B ^ i * (B * (d * B ^ (k - i - 1))) by ac_rfl, Nat.add_mul_div_left _ _ (Nat.pow_pos (by omega)), Nat.add_mul_mod_self_left]
end
section
open Go.RowKit Go.Lib
def r22 (n : Nat) : Array Value := row .i64 22 (dg 4096 n)
theorem qe (n : Nat) : (r22 n).size = 22 := QG _ _ _
theorem qdI (D F G H x y bw bw' z : Int) (h : H = F - G + bw * D) (hz : z = x - y - bw + 4096 * bw') :
 H + z * D = (F + x * D) - (G + y * D) + bw' * (D * 4096) := by
 subst h hz; grind
theorem less_end (a b : Nat) (hab : b ≤ a) (ha : a < 4096 ^ 22) (h : Nat → Int) (bw : Int) (hb0 : 0 ≤ bw) (hb1 : bw ≤ 1) (hd : ∀ j, j < 22 → 0 ≤ h j ∧ h j < 4096)
 (hs : qr 4096 h 22 = qr 4096 (dg 4096 a) 22 - qr 4096 (dg 4096 b) 22 + bw * 4096 ^ 22) : row .i64 22 h = r22 (a - b) := by
 have e1 := Q7 4096 a 22
 have e2 := Q7 4096 b 22
 rw [Nat.mod_eq_of_lt ha] at e1
 rw [Nat.mod_eq_of_lt (by omega)] at e2
 have e3 : qr 4096 h 22 < 4096 ^ 22 := ZQ 4096 (by decide) h 22 fun i hi => (hd i hi).2
 have e1' : qr 4096 (dg 4096 a) 22 = a := e1
 have e2' : qr 4096 (dg 4096 b) 22 = b := e2
 rw [e1', e2'] at hs
 have hbw : bw = 0 := by
  rcases (show bw = 0 ∨ bw = 1 by omega) with h0 | h0
  · exact h0
  · subst h0; omega
 subst hbw
 refine Qb _ _ _ _ (zo 4096 h (a - b) 22 hd ?_)
 show qr 4096 h 22 = _
 rw [hs]; omega
theorem Zn (a b : Nat) (hab : b ≤ a) (ha : a < 4096 ^ 22) (w : World) :
 Calls Try.prog 81 #[.agg (r22 a), .agg (r22 b)] w fun e w' => e = .returned (.agg (r22 (a - b))) ∧ Below w.heap.size w w' := by
 have hf := fun i => zV 4096 a i (by decide)
 have hg := fun i => zV 4096 b i (by decide)
 have hend := less_end a b hab ha
 have HF := Lib.hid hf; clear hf
 have HG := Lib.hid hg; clear hg
 have HE := Lib.hid hend; clear hend
 have H0 := Lib.hid hab; clear hab
 have H1 := Lib.hid ha; clear ha
 go_enter Try.func81, Try.ntmps81
 go_wp2_with fail
 go_loopw [5, 6] (fun u i wr => ∃ (k : Nat) (h : Nat → Int) (bw : Int), k ≤ 22 ∧ i = .int .i64 k ∧ u = .int .i64 bw ∧ 0 ≤ bw ∧ bw ≤ 1 ∧ (∀ j, k ≤ j → h j = dg 4096 a j) ∧ (∀ j, j < k → 0 ≤ h j ∧ h j < 4096) ∧ qr 4096 h k = qr 4096 (dg 4096 a) k - qr 4096 (dg 4096 b) k + bw * 4096 ^ k ∧ Has wr w.heap.size (row .i64 22 h) 40 ∧ Has wr (w.heap.size + 1) (r22 b) 40 ∧ HasN wr (w.heap.size + 1 + 1) 22 40 ∧ Below w.heap.size w wr) (fun _ i _ => 22 - (intOf i).toNat)
 case atStart =>
  exact ⟨0, dg 4096 a, 0, by omega, rfl, rfl, by omega, by omega, fun _ _ => rfl, fun j hj => by omega, by simp [qr], ((Has.new _ _ _).alloc _).alloc _, (Has.new1 _ _ _ _).alloc _, HasN.new2 _ _ _ _ _ _ rfl, QD _ _ _ _⟩
 case round =>
  obtain ⟨k, h, bw, hk, rfl, rfl, hb0, hb1, hh, hd, hs, m0, m1, m2, hB⟩ := hrel
  have HH := Lib.hid hh; clear hh
  have HD := Lib.hid hd; clear hd
  have HS := Lib.hid hs; clear hs
  have M0 := Lib.hid m0; clear m0
  have M1 := Lib.hid m1; clear m1
  have M2 := Lib.hid m2; clear m2
  by_cases hlt : k < 22
  · have h1 := M0.out.cell k hlt
    have h2 := M1.out.cell k hlt
    have hfz := M0.out.frozen k
    have h3 := HF.out k
    have h4 := HG.out k
    rw [← HH.out k (Nat.le_refl _)] at h3
    obtain ⟨x, hx⟩ : ∃ x, x = h k := ⟨_, rfl⟩
    obtain ⟨y, hy⟩ : ∃ y, y = dg 4096 b k := ⟨_, rfl⟩
    rw [← hx] at h1 h3
    rw [← hy] at h2 h4
    have Hx := Lib.hid hx; clear hx
    have Hy := Lib.hid hy; clear hy
    obtain ⟨h30, h31⟩ := h3
    obtain ⟨h40, h41⟩ := h4
    go_wp2_with fail
    go_quiet (fail)
    go_wp2_with fail
    all_goals
     go_roundw
     case measure => simp [intOf]; omega
     case rel =>
      first
      | (refine ⟨k + 1, upd h k (x - y - bw + 4096), 1, by omega, by go_num, rfl, by omega, by omega, ?_, ?_, ?_, (M0.out.drewN _).set _ _, M1.out.other _ _ (by simp), M2.out.other _ _ (by simp; omega), (qN hB _).setCell (by simp) _⟩
         · intro j hj; rw [qD _ _ _ _ (by omega)]; exact HH.out j (by omega)
         · intro j hj
           by_cases e : j = k
           · subst e; rw [qw]; omega
           · rw [qD _ _ _ _ e]; exact HD.out j (by omega)
         · simp only [qr]
           rw [qU _ _ _ _ _ (Nat.le_refl _), qw, ← HH.out k (Nat.le_refl _), ← Hx.out, ← Hy.out, Int.pow_succ]
           exact qdI _ _ _ _ _ _ _ _ _ HS.out (by omega))
      | (refine ⟨k + 1, upd h k (x - y - bw), 0, by omega, by go_num, rfl, by omega, by omega, ?_, ?_, ?_, (M0.out.drewN _).set _ _, M1.out.other _ _ (by simp), M2.out.other _ _ (by simp; omega), (qN hB _).setCell (by simp) _⟩
         · intro j hj; rw [qD _ _ _ _ (by omega)]; exact HH.out j (by omega)
         · intro j hj
           by_cases e : j = k
           · subst e; rw [qw]; omega
           · rw [qD _ _ _ _ e]; exact HD.out j (by omega)
         · simp only [qr]
           rw [qU _ _ _ _ _ (Nat.le_refl _), qw, ← HH.out k (Nat.le_refl _), ← Hx.out, ← Hy.out, Int.pow_succ]
           exact qdI _ _ _ _ _ _ _ _ _ HS.out (by omega))
  · obtain rfl : k = 22 := by omega
    obtain ⟨Z, hZ, m2⟩ := M2.out
    have HZ := Lib.hid hZ; clear hZ
    have M3 := Lib.hid m2; clear m2
    go_wp2_with (first | (refine wpList_load_row rfl 40 _ rfl w.heap.size rfl 40 (row .i64 22 h) (0, 0) _ M0.out Try.underlying40 rfl (by kernel_rfl) ?_) | (refine wpList_store_row rfl 40 _ _ rfl (w.heap.size + 1 + 1) _ rfl rfl 40 Z M3.out (by kernel_rfl) (HZ.out.trans (QG _ _ _).symm) (qp _ _ _) ?_))
    refine bodyPost_ret (v := .agg (r22 (a - b))) (results_cell_row (t := 40) (by rfl) _ _ (w.heap.size + 1 + 1) _ _ _ rfl ((M3.out.setRow _).trans (by rw [HE.out h bw hb0 hb1 HD.out HS.out])) Try.underlying40 rfl (by rw [qe]; kernel_rfl)) rfl ⟨rfl, below_setRow hB _ _ (by omega)⟩
def PP : Nat := 57896044618658097711785492504343953926634992332820282019728792003956564819949
theorem qai : PP < 4096 ^ 22 := by decide +kernel
theorem prime_row : row .i64 22 (upd (upd (fun j => if j < 21 then 4095 else 0) 0 4077) 21 7) = r22 PP := by
 refine Qb _ _ _ _ ?_
 have : (List.range 22).all (fun i => upd (upd (fun j => if j < 21 then 4095 else 0) 0 4077) 21 7 i == dg 4096 PP i) = true := by decide +kernel
 intro i hi
 simpa using List.all_eq_true.1 this i (by simpa using hi)
theorem Q8 (w : World) : Calls Try.prog 82 #[] w fun e w' => e = .returned (.agg (r22 PP)) ∧ Below w.heap.size w w' := by
 go_enter Try.func82, Try.ntmps82
 go_wp2_with fail
 go_loopw [2] (fun i wr => ∃ (k : Nat), k ≤ 21 ∧ i = .int .i64 k ∧ Has wr (w.heap.size + 1) (row .i64 22 (fun j => if j < k then 4095 else 0)) 40 ∧ HasN wr w.heap.size 22 40 ∧ Below w.heap.size w wr) (fun i _ => 21 - (intOf i).toNat)
 case atStart =>
  exact ⟨0, by omega, rfl, Has.new1 _ _ _ _, (HasN.new _ _ _ 22 rfl).alloc _, Qx _ _ _⟩
 case round =>
  obtain ⟨k, hk, rfl, m0, m1, hB⟩ := hrel
  have M0 := Lib.hid m0; clear m0
  have M1 := Lib.hid m1; clear m1
  by_cases hlt : k < 21
  · have h1 := M0.out.cell k (by omega)
    have hfz := M0.out.frozen k
    go_wp2_with fail
    go_roundw
    case measure => simp [intOf]; omega
    case rel =>
     refine ⟨k + 1, by omega, by go_num, ?_, M1.out.other _ _ (by simp), hB.setCell (by simp) _⟩
     have := M0.out.set k 4095
     rw [Qb _ _ _ (fun j => if j < k + 1 then 4095 else 0)] at this
     · exact this
     · intro i _
       by_cases e : i = k
       · subst e; rw [qw]; simp
       · rw [qD _ _ _ _ e]
         show (if i < k then (4095 : Int) else 0) = if i < k + 1 then 4095 else 0
         split <;> split <;> first | rfl | omega
  · obtain rfl : k = 21 := by omega
    have h1 := M0.out.cell 0 (by omega)
    have h2 := M0.out.cell 21 (by omega)
    have f1 := M0.out.frozen 0
    have f2 := M0.out.frozen 21
    have m2 := ((M0.out.set 0 4077).set 21 7)
    rw [prime_row] at m2
    have M2 := Lib.hid m2; clear m2
    obtain ⟨Z, hZ, m3⟩ := M1.out
    have M3 := Lib.hid ((m3.other ⟨w.heap.size + 1, 0, none⟩ (.int .i64 4077) (by simp)).other ⟨w.heap.size + 1, 21, none⟩ (.int .i64 7) (by simp)); clear m3
    have HZ := Lib.hid hZ; clear hZ
    go_wp2_with (first | (refine wpList_load_row rfl 40 _ rfl (w.heap.size + 1) rfl 40 (r22 PP) (0, 0) _ M2.out Try.underlying40 rfl (by kernel_rfl) ?_) | (refine wpList_store_row rfl 40 _ _ rfl w.heap.size _ rfl rfl 40 Z M3.out (by kernel_rfl) (HZ.out.trans (qe _).symm) (qp _ _ _) ?_))
    exact bodyPost_ret (v := .agg (r22 PP)) (results_cell_row (t := 40) (by rfl) _ _ w.heap.size _ _ _ rfl (M3.out.setRow _) Try.underlying40 rfl (by kernel_rfl)) rfl ⟨rfl, below_setRow ((hB.setCell (by simp) _).setCell (by simp) _) _ _ (by omega)⟩
theorem below_end (a b k : Nat) (ha : a < 4096 ^ 22) (hb : b < 4096 ^ 22) (hk : k < 22) (heq : ∀ j, k < j → j < 22 → dg 4096 a j = dg 4096 b j) (hne : dg 4096 a k ≠ dg 4096 b k) : (dg 4096 a k < dg 4096 b k) ↔ a < b := by
 have e1 : qr 4096 (dg 4096 a) 22 = (a % 4096 ^ 22 : Nat) := Q7 4096 a 22
 have e2 : qr 4096 (dg 4096 b) 22 = (b % 4096 ^ 22 : Nat) := Q7 4096 b 22
 rw [Nat.mod_eq_of_lt ha] at e1
 rw [Nat.mod_eq_of_lt hb] at e2
 have up : ∀ n, k + 1 ≤ n → n ≤ 22 → qr 4096 (dg 4096 a) n - qr 4096 (dg 4096 b) n = qr 4096 (dg 4096 a) (k + 1) - qr 4096 (dg 4096 b) (k + 1) := by
  intro n hn
  induction n with
  | zero => omega
  | succ n ih =>
   intro h22
   by_cases hkn : k = n
   · subst hkn; rfl
   · have := ih (by omega) (by omega)
     have h2 := heq n (by omega) (by omega)
     simp only [qr] at this ⊢
     rw [h2]; omega
 have h3 := up 22 (by omega) (by omega)
 rw [e1, e2] at h3
 simp only [qr] at h3
 have p1 := Qk 4096 (by decide) (dg 4096 a) k (fun i _ => (zV 4096 a i (by decide)).1)
 have p2 := Qk 4096 (by decide) (dg 4096 b) k (fun i _ => (zV 4096 b i (by decide)).1)
 have q1 := ZQ 4096 (by decide) (dg 4096 a) k (fun i _ => (zV 4096 a i (by decide)).2)
 have q2 := ZQ 4096 (by decide) (dg 4096 b) k (fun i _ => (zV 4096 b i (by decide)).2)
 have hD : (0 : Int) < 4096 ^ k := Int.pow_pos (by decide)
 generalize (4096 : Int) ^ k = D at *
 generalize dg 4096 a k = x at *
 generalize dg 4096 b k = y at *
 constructor
 · intro h
   have : (x + 1) * D ≤ y * D := Int.mul_le_mul_of_nonneg_right (by omega) (by omega)
   rw [Int.add_mul] at this
   omega
 · intro h
   by_cases hh : x < y
   · exact hh
   · have : (y + 1) * D ≤ x * D := Int.mul_le_mul_of_nonneg_right (by omega) (by omega)
     rw [Int.add_mul] at this
     omega
theorem below_eq (a b : Nat) (ha : a < 4096 ^ 22) (hb : b < 4096 ^ 22) (heq : ∀ j, j < 22 → dg 4096 a j = dg 4096 b j) : a = b := by
 have e1 : qr 4096 (dg 4096 a) 22 = (a % 4096 ^ 22 : Nat) := Q7 4096 a 22
 have e2 : qr 4096 (dg 4096 b) 22 = (b % 4096 ^ 22 : Nat) := Q7 4096 b 22
 rw [Nat.mod_eq_of_lt ha] at e1
 rw [Nat.mod_eq_of_lt hb] at e2
 rw [zi 4096 _ _ 22 heq] at e1
 omega
theorem ret_bool {a b : Bool} (h : a = b) : Ending.returned (.bool a) = .returned (.bool b) := by rw [h]
theorem qdV (a b : Nat) (ha : a < 4096 ^ 22) (hb : b < 4096 ^ 22) (w : World) :
 Calls Try.prog 109 #[.agg (r22 a), .agg (r22 b)] w fun e w' => e = .returned (.bool (decide (a < b))) ∧ Below w.heap.size w w' := by
 have H0 := Lib.hid ha; clear ha
 have H1 := Lib.hid hb; clear hb
 go_enter Try.func109, Try.ntmps109
 go_wp2_with fail
 go_loopw [5] (fun i wr => ∃ (k : Nat), k ≤ 22 ∧ i = .int .i64 ((k : Int) - 1) ∧ (∀ j, k ≤ j → j < 22 → dg 4096 a j = dg 4096 b j) ∧ Has wr w.heap.size (r22 a) 40 ∧ Has wr (w.heap.size + 1) (r22 b) 40 ∧ Below w.heap.size w wr) (fun i _ => (intOf i + 1).toNat)
 case atStart =>
  exact ⟨22, by omega, rfl, fun j h1 h2 => by omega, (Has.new _ _ _).alloc _, Has.new1 _ _ _ _, Qx _ _ _⟩
 case round =>
  obtain ⟨k, hk, rfl, hh, m0, m1, hB⟩ := hrel
  have M0 := Lib.hid m0; clear m0
  have M1 := Lib.hid m1; clear m1
  have HH := Lib.hid hh; clear hh
  by_cases hlt : 0 < k
  · obtain ⟨k, rfl⟩ : ∃ j, k = j + 1 := ⟨k - 1, by omega⟩
    rw [show (((k + 1 : Nat) : Int) - 1) = (k : Int) by omega]
    have h1 := M0.out.cell k (by omega)
    have h2 := M1.out.cell k (by omega)
    obtain ⟨x, hx⟩ : ∃ x, x = dg 4096 a k := ⟨_, rfl⟩
    obtain ⟨y, hy⟩ : ∃ y, y = dg 4096 b k := ⟨_, rfl⟩
    rw [← hx] at h1
    rw [← hy] at h2
    have Hx := Lib.hid hx; clear hx
    have Hy := Lib.hid hy; clear hy
    have hk' : k < 22 := by omega
    by_cases hxy : x = y
    · have ht : (x != y) = false := by simp [hxy]
      have Hxy := Lib.hid hxy; clear hxy
      go_wp2_with fail
      go_quiet (fail)
      go_wp2_with fail
      go_roundw
      case measure => simp [intOf]
      case rel =>
       refine ⟨k, by omega, rfl, ?_, M0.out, M1.out, qN hB _⟩
       intro j h1 h2
       by_cases e : j = k
       · subst e; rw [← Hx.out, ← Hy.out]; exact Hxy.out
       · exact HH.out j (by omega) h2
    · have ht : (x != y) = true := by simp [hxy]
      have hxy' : dg 4096 a k ≠ dg 4096 b k := by rw [← Hx.out, ← Hy.out]; exact hxy
      have hres := below_end a b k H0.out H1.out hk' (fun j h1 h2 => HH.out j (by omega) h2) hxy'
      rw [← Hx.out, ← Hy.out] at hres
      have HR := Lib.hid hres; clear hres hxy' hxy
      go_wp2_with fail
      go_quiet (fail)
      go_wp2_with fail
      go_quiet (fail)
      go_wp2_with fail
      go_ret
      exact ⟨ret_bool (by have := HR.out; simp only [this]), qN (qN hB _) _⟩
  · obtain rfl : k = 0 := by omega
    have hab := below_eq a b H0.out H1.out (fun j hj => HH.out j (by omega) hj)
    have HR := Lib.hid hab; clear hab
    go_wp2_with fail
    go_ret
    exact ⟨ret_bool (by have := HR.out; simp [this]), hB⟩
end
section
open Go.RowKit Go.Lib
theorem Zc (B : Int) (g : Nat → Int) (a b : Nat) : qr B g (a + b) = qr B g a + B ^ a * qr B (fun j => g (j + a)) b := by
 induction b with
 | zero => simp [qr]
 | succ b ih =>
  rw [← Nat.add_assoc]
  simp only [qr]
  rw [ih, Int.mul_add, Int.pow_add, Nat.add_comm b a]
  have : g (a + b) * (B ^ a * B ^ b) = B ^ a * (g (a + b) * B ^ b) := by ac_rfl
  omega
theorem sumf_lin (B c : Int) (f g : Nat → Int) (n : Nat) : qr B (fun j => f j + c * g j) n = qr B f n + c * qr B g n := by
 induction n with
 | zero => simp [qr]
 | succ n ih =>
  simp only [qr]
  rw [ih, Int.mul_add, Int.add_mul, Int.mul_assoc]
  omega
theorem carry_step (D S F x c r q : Int) (h : S + c * D = F) (hr : x + c = r + 4096 * q) : (S + r * D) + q * (D * 4096) = F + x * D := by
 have : x = r + 4096 * q - c := by omega
 subst this; grind
def bnd (k : Nat) : Nat := if k = 0 then 878694100496718043517683302282418331810487718418343092402491322775749527474899974671687634004666183037093927858109549828751614463963730408009475621262727315456 else if k = 1 then 485667223056432267729865476705879726660601709763034880312953102434726071301302124544 else if k = 2 then 29642774844752946028434172162224104410437116074403984394101141506025761456259072 else 29642774844752946028434172162224104410437116074403984394101141506025761187823616
theorem bnd_le (k : Nat) : bnd k ≤ 878694100496718043517683302282418331810487718418343092402491322775749527474899974671687634004666183037093927858109549828751614463963730408009475621262727315456 := by unfold bnd; split <;> (try split) <;> (try split) <;> omega
theorem bnd_3 (k : Nat) (h : 3 ≤ k) : bnd k = 29642774844752946028434172162224104410437116074403984394101141506025761187823616 := by unfold bnd; rw [if_neg (by omega), if_neg (by omega), if_neg (by omega)]
theorem p22 : (4096 : Int) ^ 22 = 29642774844752946028434172162224104410437116074403984394101141506025761187823616 := by decide +kernel
theorem p44 : (4096 : Int) ^ 44 = 878694100496718043517683302282418331810487718418343092402491322775749527474899974671687634004666183037093927858109549828751614463963730408009475621262727315456 := by decide +kernel
theorem fold_num (k L H m m' : Nat) (hm : m = L + 29642774844752946028434172162224104410437116074403984394101141506025761187823616 * H) (hm' : m' = L + 9728 * H) (hL : L < 29642774844752946028434172162224104410437116074403984394101141506025761187823616) (hb : m < bnd k) (hk : k < 5) : m' % PP = m % PP ∧ m' < bnd (k + 1) := by
 have e : 29642774844752946028434172162224104410437116074403984394101141506025761187823616 = 9728 + 512 * PP := by decide +kernel
 constructor
 · rw [hm, hm', e, Nat.add_mul, ← Nat.add_assoc, show 512 * PP * H = PP * (512 * H) by ac_rfl, Nat.add_mul_mod_self_left]
 · clear e
   unfold bnd at hb ⊢
   split at hb
   · split <;> (try split) <;> (try split) <;> omega
   split at hb
   · split <;> (try split) <;> (try split) <;> omega
   split at hb
   · split <;> (try split) <;> (try split) <;> omega
   · split <;> (try split) <;> (try split) <;> omega
structure qdw (n k : Nat) (h : Nat → Int) : Prop where
 bd : ∀ i, i < 44 → 0 ≤ h i ∧ h i ≤ 1099511627776
 num : ∃ m : Nat, qr 4096 h 44 = m ∧ m % PP = n % PP ∧ m < bnd k
 norm : 4 ≤ k → ∀ i, i < 22 → h i < 4096
 high : 1 ≤ k → ∀ i, 22 ≤ i → i < 44 → h i = 0
structure Inv2 (n k : Nat) (g : Nat → Int) : Prop where
 bd : ∀ i, i < 44 → 0 ≤ g i ∧ g i < 4096
 num : ∃ m : Nat, qr 4096 g 44 = m ∧ m % PP = n % PP ∧ m < bnd k
theorem inv2_of (n k : Nat) (h g : Nat → Int) (c : Int) (h1 : qdw n k h) (hc : 0 ≤ c) (hb : ∀ i, i < 44 → 0 ≤ g i ∧ g i < 4096) (hs : qr 4096 g 44 + c * 4096 ^ 44 = qr 4096 h 44) : Inv2 n k g := by
 obtain ⟨m, hm, hmod, hlt⟩ := h1.num
 refine ⟨hb, m, ?_, hmod, hlt⟩
 have hlt' := bnd_le k
 have h0 := Qk 4096 (by decide) g 44 (fun i hi => (hb i hi).1)
 rw [hm, p44] at hs
 have : c = 0 := by omega
 subst this
 simpa using hs
theorem inv1_of (n k : Nat) (g : Nat → Int) (hk : k < 5) (hg : Inv2 n k g) (h : Nat → Int) (hl : ∀ i, i < 22 → h i = g i + 9728 * g (i + 22)) (hh : ∀ i, 22 ≤ i → i < 44 → h i = 0) : qdw n (k + 1) h := by
 obtain ⟨m, hm, hmod, hlt⟩ := hg.num
 have hsp := Zc 4096 g 22 22
 have hL0 := Qk 4096 (by decide) g 22 (fun i hi => (hg.bd i (by omega)).1)
 have hL1 := ZQ 4096 (by decide) g 22 (fun i hi => (hg.bd i (by omega)).2)
 have hH0 := Qk 4096 (by decide) (fun j => g (j + 22)) 22 (fun i hi => (hg.bd (i + 22) (by omega)).1)
 have hsum : qr 4096 h 44 = qr 4096 g 22 + 9728 * qr 4096 (fun j => g (j + 22)) 22 := by
  rw [show (44 : Nat) = 22 + 22 from rfl, Zc, Q6 4096 (fun j => h (j + 22)) 22 (fun i hi => hh (i + 22) (by omega) (by omega)), zi 4096 h (fun j => g j + 9728 * g (j + 22)) 22 hl,
   sumf_lin 4096 9728 g (fun j => g (j + 22)) 22]
  omega
 obtain ⟨L, eL⟩ := Int.eq_ofNat_of_zero_le hL0
 obtain ⟨H, eH⟩ := Int.eq_ofNat_of_zero_le hH0
 rw [show (22 + 22 : Nat) = 44 from rfl, hm, eL, eH] at hsp
 rw [eL, eH] at hsum
 rw [eL] at hL1
 rw [p22] at hsp hL1
 have key := fold_num k L H m (L + 9728 * H) (by omega) rfl (by omega) hlt hk
 refine ⟨?_, ⟨L + 9728 * H, by rw [hsum]; omega, key.1.trans hmod, key.2⟩, ?_, fun _ => hh⟩
 · intro i hi
   by_cases h22 : i < 22
   · rw [hl i h22]
     have a1 := hg.bd i (by omega)
     have a2 := hg.bd (i + 22) (by omega)
     omega
   · rw [hh i (by omega) hi]; omega
 · intro hk4 i hi
   -- the number is below 2 ^ 264: nothing is above
   rw [bnd_3 k (by omega)] at hlt
   have hH : H = 0 := by omega
   have hz : g (i + 22) = 0 := by
    have hu := zo 4096 (fun j => g (j + 22)) 0 22 (fun i hi => hg.bd (i + 22) (by omega)) (by show qr 4096 _ 22 = _; rw [eH, hH]) i hi
    rw [hu, dg, Nat.zero_div, Nat.zero_mod]
    rfl
   rw [hl i hi, hz]
   have := (hg.bd i (by omega)).2
   omega
def bnd4 (k : Nat) : Nat := if k = 0 then 29642774844752946028434172162224104410437116074403984394101141506025761187823616 else if k = 1 then 57896044618658097711785492504343953926634992332820282019728792003956564829696 else 57896044618658097711785492504343953926634992332820282019728792003956564819968
theorem p21 : (4096 : Int) ^ 21 = 7237005577332262213973186563042994240829374041602535252466099000494570602496 := by decide +kernel
structure Inv4 (n k : Nat) (h : Nat → Int) : Prop where
 bd : ∀ i, i < 22 → 0 ≤ h i ∧ h i < 4096
 num : ∃ m : Nat, qr 4096 h 22 = m ∧ m % PP = n % PP ∧ m < bnd4 k
theorem inv4_of (n : Nat) (h : Nat → Int) (h1 : qdw n 5 h) : Inv4 n 0 h := by
 obtain ⟨m, hm, hmod, hlt⟩ := h1.num
 refine ⟨fun i hi => ⟨(h1.bd i (by omega)).1, h1.norm (by omega) i hi⟩, m, ?_, hmod, by rw [bnd_3 _ (by omega)] at hlt; exact hlt⟩
 rw [show (44 : Nat) = 22 + 22 from rfl, Zc, Q6 4096 (fun j => h (j + 22)) 22 (fun i hi => h1.high (by omega) (i + 22) (by omega) (by omega))] at hm
 simpa using hm
def mid (h : Nat → Int) : Nat → Int := upd (upd h 21 (h 21 % 8)) 0 (h 0 + 19 * (h 21 / 8))
theorem mid_sum (h : Nat → Int) : qr 4096 (mid h) 22 = qr 4096 h 22 - (h 21 / 8) * (PP : Int) := by
 have e : (PP : Int) = 8 * 7237005577332262213973186563042994240829374041602535252466099000494570602496 - 19 := by decide +kernel
 unfold mid
 rw [Qs _ _ _ _ _ (by omega), qD _ _ _ _ (by omega), Qs _ _ _ _ _ (by omega), p21, e]
 omega
theorem mid_bd (h : Nat → Int) (hb : ∀ i, i < 22 → 0 ≤ h i ∧ h i < 4096) : ∀ i, i < 22 → 0 ≤ mid h i ∧ mid h i ≤ 16384 := by
 intro i hi
 have h21 := hb 21 (by omega)
 have h0 := hb 0 (by omega)
 unfold mid
 by_cases e0 : i = 0
 · subst e0; rw [qw]; omega
 · rw [qD _ _ _ _ e0]
   by_cases e1 : i = 21
   · subst e1; rw [qw]; omega
   · rw [qD _ _ _ _ e1]; have := hb i hi; omega
theorem pass_sum (h : Nat → Int) (i : Nat) (hi : i < 21) : qr 4096 (upd (upd h (i + 1) (h (i + 1) + h i / 4096)) i (h i % 4096)) 22 = qr 4096 h 22 := by
 rw [Qs _ _ _ _ _ (by omega), qD _ _ _ _ (by omega), Qs _ _ _ _ _ (by omega), Int.pow_succ]
 have e : h i % 4096 = h i - 4096 * (h i / 4096) := by omega
 rw [e]
 generalize h i / 4096 = q
 generalize (4096 : Int) ^ i = D
 generalize h i = x
 generalize h (i + 1) = y
 grind
theorem s4a (m q : Nat) (G x : Int) (hG : 0 ≤ G) (h : G + x * 7237005577332262213973186563042994240829374041602535252466099000494570602496 = m - q * 57896044618658097711785492504343953926634992332820282019728792003956564819949) (hm : m < 29642774844752946028434172162224104410437116074403984394101141506025761187823616) : x < 4096 := by omega
theorem s4b (m q : Nat) (A r : Int) (hA : 0 ≤ A) (hr : 0 ≤ r) (h : A + (8 * q + r) * 7237005577332262213973186563042994240829374041602535252466099000494570602496 = m) : q * 57896044618658097711785492504343953926634992332820282019728792003956564819949 ≤ m := by omega
theorem s4c (m q : Nat) (A r : Int) (hA : 0 ≤ A) (hA' : A < 7237005577332262213973186563042994240829374041602535252466099000494570602496) (hr : 0 ≤ r) (hr' : r < 8) (h : A + (8 * q + r) * 7237005577332262213973186563042994240829374041602535252466099000494570602496 = m) (hm : m < 29642774844752946028434172162224104410437116074403984394101141506025761187823616) : m - q * 57896044618658097711785492504343953926634992332820282019728792003956564819949 < 57896044618658097711785492504343953926634992332820282019728792003956564829696 := by omega
theorem s4d (m q : Nat) (A r : Int) (hA : 0 ≤ A) (hA' : A < 7237005577332262213973186563042994240829374041602535252466099000494570602496) (hr : 0 ≤ r) (hr' : r < 8) (h : A + (8 * q + r) * 7237005577332262213973186563042994240829374041602535252466099000494570602496 = m) (hm : m < 57896044618658097711785492504343953926634992332820282019728792003956564829696) : m - q * 57896044618658097711785492504343953926634992332820282019728792003956564819949 < 57896044618658097711785492504343953926634992332820282019728792003956564819968 := by omega
theorem s4e (m q : Nat) (h : q * 57896044618658097711785492504343953926634992332820282019728792003956564819949 ≤ m) : ((m - q * 57896044618658097711785492504343953926634992332820282019728792003956564819949 : Nat) : Int) = m - q * 57896044618658097711785492504343953926634992332820282019728792003956564819949 := by omega
theorem s4f (m q : Nat) (h : q * 57896044618658097711785492504343953926634992332820282019728792003956564819949 ≤ m) : m = (m - q * 57896044618658097711785492504343953926634992332820282019728792003956564819949) + 57896044618658097711785492504343953926634992332820282019728792003956564819949 * q := by omega
theorem inv4_step (n k : Nat) (h g : Nat → Int) (hk : k < 2) (h1 : Inv4 n k h) (hb : ∀ i, i < 21 → 0 ≤ g i ∧ g i < 4096) (h21 : 0 ≤ g 21) (hs : qr 4096 g 22 = qr 4096 (mid h) 22) : Inv4 n (k + 1) g := by
 obtain ⟨m, hm, hmod, hlt⟩ := h1.num
 have hb21 := h1.bd 21 (by omega)
 have hlow := ZQ 4096 (by decide) h 21 (fun i hi => (h1.bd i (by omega)).2)
 have hlow0 := Qk 4096 (by decide) h 21 (fun i hi => (h1.bd i (by omega)).1)
 have hg0 := Qk 4096 (by decide) g 21 (fun i hi => (hb i hi).1)
 rw [mid_sum, hm] at hs
 have e : (PP : Int) = 57896044618658097711785492504343953926634992332820282019728792003956564819949 := by decide +kernel
 have e' : PP = 57896044618658097711785492504343953926634992332820282019728792003956564819949 := rfl
 have hm' : qr 4096 h 21 + h 21 * 4096 ^ 21 = m := hm
 have hs' : qr 4096 g 21 + g 21 * 4096 ^ 21 = m - h 21 / 8 * (PP : Int) := hs
 obtain ⟨q, hq⟩ := Int.eq_ofNat_of_zero_le (show 0 ≤ h 21 / 8 by omega)
 have hdec : h 21 = 8 * q + h 21 % 8 := by omega
 have hr : 0 ≤ h 21 % 8 := by omega
 have hr' : h 21 % 8 < 8 := by omega
 generalize h 21 % 8 = r at *
 rw [p21] at hm' hs' hlow
 rw [hdec] at hm'
 rw [hq, e] at hs' hs
 have hle := s4b m q _ r hlow0 hr hm'
 refine ⟨?_, m - q * 57896044618658097711785492504343953926634992332820282019728792003956564819949, ?_, ?_, ?_⟩
 · intro i hi
   by_cases e1 : i = 21
   · subst e1
     refine ⟨h21, s4a m q _ _ hg0 hs' ?_⟩
     unfold bnd4 at hlt
     split at hlt
     · exact hlt
     · split at hlt <;> omega
   · exact hb i (by omega)
 · rw [hs, s4e m q hle]
 · have := s4f m q hle
   rw [← hmod]
   conv => rhs; rw [this, ← e']
   rw [Nat.add_mul_mod_self_left, e']
 · unfold bnd4 at hlt ⊢
   rcases (show k = 0 ∨ k = 1 by omega) with rfl | rfl
   · simp only [if_true, Nat.zero_add, Nat.one_ne_zero, if_false] at hlt ⊢
     exact s4c m q _ r hlow0 hlow hr hr' hm' hlt
   · simp only [if_true, Nat.one_ne_zero, if_false] at hlt ⊢
     rw [if_neg (by omega), if_neg (by omega)]
     exact s4d m q _ r hlow0 hlow hr hr' hm' hlt
theorem inv4_end (n : Nat) (h : Nat → Int) (h1 : Inv4 n 2 h) : ∃ m : Nat, row .i64 22 h = r22 m ∧ m % PP = n % PP ∧ m < 57896044618658097711785492504343953926634992332820282019728792003956564819968 := by
 obtain ⟨m, hm, hmod, hlt⟩ := h1.num
 exact ⟨m, Qb _ _ _ _ (zo 4096 h m 22 h1.bd hm), hmod, hlt⟩
end
end Go.Proofs.Ytjiagjonlcadiaa
namespace Go
section
variable {P : Program} {md : Region.Mode} {ops : Array Oper} {Q : Exit → Act → World → Prop} {f : Nat} {S : World → Prop}
def Qq (P : Program) (md : Region.Mode) (ops : Array Oper) (Q : Exit → Act → World → Prop) (f : Nat) (S : World → Prop) : Nat → Array Bool → Act → World → Prop
 | 0, listed, a, w => Region.ready md ops listed = [] ∧ Q .normal a w
 | n + 1, listed, a, w => (Region.ready md ops listed = [] → Q .normal a w) ∧
  ∀ j ∈ Region.ready md ops listed, wpOp P ops Q j (fun a' w' => (j ≠ f → S w') ∧ Qq P md ops Q f S n (listed.setIfInBounds j true) a' w') a w
theorem qbf (n : Nat) : ∀ (listed : Array Bool) (a : Act) (w : World), Qq P md ops Q f S n listed a w → wpAny P md ops Q n listed a w := by
 induction n with
 | zero => intro _ _ _ h; exact h
 | succ n ih => intro listed a w h; exact ⟨h.1, fun j hj => wpOp_mono (fun a' w' h' => ih _ a' w' h'.2) (h.2 j hj)⟩
theorem wpBut_gen {i : Nat} {oi : Oper} {v : Value} (hi : ops[i]? = some oi) (hsel : ∀ (j : Nat) (o : Oper) cs b, ops[j]? = some o → o.op ≠ .select cs b)
 (hif : i ≠ f) (hf : ∀ o, ops[f]? = some o → ∃ e ∈ o.after, Region.binds md e = true ∧ e.on = i) (hQ : ∀ c a w, Q (.panic c) (a.put oi.dst v) w → Q (.panic c) a w) (n : Nat) :
 ∀ (listed : Array Bool) (a : Act) (w : World),
  (∀ j oj, ops[j]? = some oj → j ≠ i → listed.getD j true = false → (∀ e ∈ oj.after, Region.binds md e = true → e.on ≠ i) → oi.apart ops oj = true) →
  i ∈ Region.ready md ops listed → YieldsIf P ops S oi v a → S w →
  Qq P md ops Q f S n (listed.setIfInBounds i true) (a.put oi.dst v) w → Qq P md ops Q f S (n + 1) listed a w := by
 induction n with
 | zero =>
  intro listed a w _ hr hy hS H
  refine ⟨fun h => (by rw [h] at hr; cases hr), fun j hj => ?_⟩
  by_cases hji : j = i
  · subst hji; exact hy.wpOp hi hS ⟨fun _ => hS, H⟩
  · have h0 := ready_mono hj hji
    rw [H.1] at h0
    cases h0
 | succ n ih =>
  intro listed a w hfree hr hy hS H
  refine ⟨fun h => (by rw [h] at hr; cases hr), fun j hj => ?_⟩
  by_cases hji : j = i
  · subst hji; exact hy.wpOp hi hS ⟨fun _ => hS, H⟩
  have hiun := (mem_ready.1 hr).1
  obtain ⟨hjun, oj, hoj, hall⟩ := mem_ready.1 hj
  -- j does not wait for i, which has not come up: so j is not f
  have hnot : ∀ e ∈ oj.after, Region.binds md e = true → e.on ≠ i := by
   intro e he hb heq
   have h1 := hall e he hb
   rw [heq] at h1
   by_cases hlt : i < listed.size
   · simp [hlt] at hiun h1; rw [hiun] at h1; cases h1
   · simp [Array.getElem?_eq_none (Nat.le_of_not_lt hlt)] at h1
  have hjf : j ≠ f := by
   rintro rfl
   obtain ⟨e, he, hb, hon⟩ := hf oj hoj
   exact hnot e he hb hon
  have hstep := wpOp_putIf hoj (hfree j oj hoj hji hjun hnot) (fun cs b => hsel i oi cs b hi) (fun cs b => hsel j oj cs b hoj) hQ hy (H.2 j (ready_mono hj hji))
  refine wpOp_mono (fun a' w' hk => ?_) hstep
  have hSw := hk.2.1 hjf
  refine ⟨fun _ => hSw, ih (listed.setIfInBounds j true) a' w' ?_ (ready_mono hr (Ne.symm hji)) hk.1 hSw ?_⟩
  · intro k ok hok hki hun hno
    refine hfree k ok hok hki ?_ hno
    by_cases hjk : j = k
    · subst hjk; exact hjun
    · rw [getD_set_ne true hjk] at hun; exact hun
  · rw [Array.setIfInBounds_comm _ _ hji]; exact hk.2.2
def qbg (md : Region.Mode) (ops : Array Oper) (f i : Nat) : Bool := match ops[f]? with
 | some o => o.after.any fun e => Region.binds md e && e.on == i
 | none => true
theorem Qw {i : Nat} {oi : Oper} {v : Value} {n : Nat} {listed : Array Bool} {a : Act} {w : World} (hi : ops[i]? = some oi) (hs : Region.noSelect ops = true) (hfr : Region.free md ops listed i = true)
 (hr : (Region.ready md ops listed).contains i = true) (hif : (i == f) = false) (hf : qbg md ops f i = true) (hQ : ∀ c a w, Q (.panic c) (a.put oi.dst v) w → Q (.panic c) a w) (hy : YieldsIf P ops S oi v a) (hS : S w)
 (h : Qq P md ops Q f S n (listed.setIfInBounds i true) (a.put oi.dst v) w) : Qq P md ops Q f S (n + 1) listed a w := by
 refine wpBut_gen hi (Region.noSelect_spec hs) (by simpa using hif) (fun o ho => ?_) hQ n listed a w (Region.free_spec hi hfr) (by simpa using hr) hy hS h
 unfold qbg at hf
 rw [ho] at hf
 simp only [Array.any_eq_true'] at hf
 obtain ⟨e, he, hb⟩ := hf
 simp only [Bool.and_eq_true, beq_iff_eq] at hb
 exact ⟨e, he, hb.1, hb.2⟩
theorem qj {oi : Oper} {a : Act} (hw : Region.wanted oi (yielded ops a.tmps) = true) (ty : TypeId) (x : Operand) (ho : oi.op = .load ty x) (g : Nat) (hx : a.eval x = .pointer (some ⟨g, 0, none⟩)) (t : TypeId) (cs : Array Value)
 {d : TypeDesc} (hS : ∀ w, S w → w.heap[g]? = some (.cells cs t (0, 0))) (hu : P.underlying ty = some d) (hd : (match d with | .struct _ | .array _ _ => true | _ => false) = true) (hi : (P.info? ty).map (·.size) = some cs.size) :
 YieldsIf P ops S oi (.agg cs) a := by
 refine Or.inl ⟨hw, fun w h => ?_⟩
 unfold execOp
 simp only [ho, hx, Instr.loadAt, Instr.sureAddr, Sem.run_bind, Sem.run_pure, Result.andThen_ok, run_loadVar_row w g t ty cs (0, 0) d (hS w h) hu hd hi]
theorem qY {i : Nat} {oi : Oper} {n : Nat} {listed : Array Bool} {a : Act} {w : World} (hr : Region.ready md ops listed = [i]) (hi : ops[i]? = some oi)
 (h : ∀ K : Act → World → Prop, Shut (∀ a' w', (i ≠ f → S w') → Qq P md ops Q f S n (listed.setIfInBounds i true) a' w' → K a' w') → if Region.wanted oi (yielded ops a.tmps) = true then Oper.wp P oi a w K Q else K (a.put oi.dst undef) w) :
 Qq P md ops Q f S (n + 1) listed a w := by
 refine ⟨fun h0 => (by rw [hr] at h0; cases h0), fun j hj => ?_⟩
 rw [hr] at hj
 obtain rfl : j = i := by simpa using hj
 exact wpOp_step hi fun K hK => h K fun a' w' hS hW => hK a' w' ⟨hS, hW⟩
theorem qu {n : Nat} {listed : Array Bool} {a : Act} {w : World} (hr : Region.ready md ops listed = []) (h : Q .normal a w) : Qq P md ops Q f S n listed a w := by
 cases n with
 | zero => exact ⟨hr, h⟩
 | succ n => exact ⟨fun _ => h, by rw [hr]; simp⟩
theorem zF {id : Nat} {a : Act} {w : World} (f : Nat) (S : World → Prop) (hm : P.follows .mixedOrders = true)
 (h : Qq P .any ops Q f S ops.size (Array.replicate ops.size false) a w.drew) : (Code.region id ops true).wp P Q a w :=
 wp_region_any hm (qbf _ _ _ _ h)
theorem zg {id : Nat} {a : Act} {w : World} (f : Nat) (hm : P.follows .mixedOrders = true)
 (h : ∀ W0 : World, W0 = w → Qq P .any ops Q f (fun w' => Go.RowKit.Below W0.heap.size W0 w') ops.size (Array.replicate ops.size false) a W0.drew) : (Code.region id ops true).wp P Q a w :=
 zF f _ hm (h w rfl)
end
end Go
namespace Go.Proofs.Ytjiagjonlcadiaa
section
open Go.RowKit Go.Lib
theorem qH : 0 < PP := by decide +kernel
theorem lt_p22 (n : Nat) (h : n < 57896044618658097711785492504343953926634992332820282019728792003956564819968) : n < 4096 ^ 22 := Nat.lt_trans h (by decide +kernel)
theorem qaO (n : Nat) (f : Nat → Int) (hf : qdw n 0 f) (w : World) :
 Calls Try.prog 78 #[.agg (row .i64 44 f)] w fun e w' => e = .returned (.agg (r22 (n % PP))) ∧ Below w.heap.size w w' := by
 have HF := Lib.hid hf; clear hf
 go_enter Try.func78, Try.ntmps78
 go_wp2_with fail
 go_loopw [3] (fun i wr => ∃ (k : Nat) (h : Nat → Int), k ≤ 5 ∧ i = .int .i64 k ∧ qdw n k h ∧ Has wr w.heap.size (row .i64 44 h) 101 ∧ HasN wr (w.heap.size + 1) 22 40 ∧ Below w.heap.size w wr) (fun i _ => 5 - (intOf i).toNat)
 case atStart => exact ⟨0, f, by omega, rfl, HF.out, (Has.new _ _ _).alloc _, HasN.new1 _ _ _ _ 22 rfl, Qx _ _ _⟩
 case round =>
  obtain ⟨k, h, hk, rfl, hI, m0, m1, hB⟩ := hrel
  have M0 := Lib.hid m0; clear m0
  have M1 := Lib.hid m1; clear m1
  have HI := Lib.hid hI; clear hI
  by_cases hlt : k < 5
  · -- the pass of the carry
    go_wp2_with fail
    obtain ⟨w1, rfl⟩ : ∃ w1 : World, w1 = wr := ⟨_, rfl⟩
    go_loopw [4, 5] (fun c i wr => ∃ (j : Nat) (g : Nat → Int) (cv : Int), j ≤ 44 ∧ i = .int .i64 j ∧ c = .int .i64 cv ∧ 0 ≤ cv ∧ cv ≤ 1073741824 ∧ (∀ l, j ≤ l → g l = h l) ∧ (∀ l, l < j → 0 ≤ g l ∧ g l < 4096) ∧ qr 4096 g j + cv * 4096 ^ j = qr 4096 h j ∧ Has wr w.heap.size (row .i64 44 g) 101 ∧ HasN wr (w.heap.size + 1) 22 40 ∧ Below w.heap.size w wr) (fun _ i _ => 44 - (intOf i).toNat)
    case atStart => exact ⟨0, h, 0, by omega, rfl, rfl, by omega, by omega, fun _ _ => rfl, fun l hl => by omega, by simp [qr], M0.out, M1.out, hB⟩
    case round =>
     obtain ⟨j, g, cv, hj, rfl, rfl, hc0, hc1, hg, hd, hs, m0, m1, hB'⟩ := hrel
     have N0 := Lib.hid m0; clear m0
     have N1 := Lib.hid m1; clear m1
     have HG := Lib.hid hg; clear hg
     have HD := Lib.hid hd; clear hd
     have HS := Lib.hid hs; clear hs
     by_cases hjl : j < 44
     · have h1 := N0.out.cell j hjl
       have hfz := N0.out.frozen j
       have hx1 := HI.out.bd j hjl
       rw [← HG.out j (Nat.le_refl _)] at hx1
       obtain ⟨x, hx⟩ : ∃ x, x = g j := ⟨_, rfl⟩
       rw [← hx] at h1 hx1
       have Hx := Lib.hid hx; clear hx
       obtain ⟨hx0, hx1⟩ := hx1
       go_wp2_with fail
       go_roundw
       case measure => simp [intOf]; omega
       case rel =>
        refine ⟨j + 1, upd g j ((x + cv) % 4096), (x + cv) / 4096, by omega, by go_num, rfl, by omega, by omega, ?_, ?_, ?_, N0.out.set _ _, N1.out.other _ _ (by simp), hB'.setCell (by simp) _⟩
        · intro l hl; rw [qD _ _ _ _ (by omega)]; exact HG.out l (by omega)
        · intro l hl
          by_cases e : l = j
          · subst e; rw [qw]; omega
          · rw [qD _ _ _ _ e]; exact HD.out l (by omega)
        · simp only [qr]
          rw [qU _ _ _ _ _ (Nat.le_refl _), qw, ← HG.out j (Nat.le_refl _), ← Hx.out, Int.pow_succ]
          exact carry_step _ _ _ _ _ _ _ HS.out (by omega)
     · obtain rfl : j = 44 := by omega
       have hI2 := inv2_of n k h g cv HI.out hc0 HD.out HS.out
       have HI2 := Lib.hid hI2; clear hI2
       clear HD HS HG hjl hj M0 M1 HI hB
       -- the fold
       go_wp2_with fail
       obtain ⟨w2, rfl⟩ : ∃ w2 : World, w2 = wr := ⟨_, rfl⟩
       go_loopw [7] (fun i wr => ∃ (j : Nat) (u : Nat → Int), j ≤ 22 ∧ i = .int .i64 j ∧ (∀ l, l < j → u l = g l + 9728 * g (l + 22) ∧ u (l + 22) = 0) ∧ (∀ l, j ≤ l → l < 22 → u l = g l ∧ u (l + 22) = g (l + 22)) ∧ Has wr w.heap.size (row .i64 44 u) 101 ∧ HasN wr (w.heap.size + 1) 22 40 ∧ Below w.heap.size w wr) (fun i _ => 22 - (intOf i).toNat)
       case atStart => exact ⟨0, g, by omega, rfl, fun l hl => by omega, fun _ _ _ => ⟨rfl, rfl⟩, N0.out, N1.out, hB'⟩
       case round =>
        obtain ⟨j, u, hj, rfl, hu1, hu2, m0, m1, hB⟩ := hrel
        have O0 := Lib.hid m0; clear m0
        have O1 := Lib.hid m1; clear m1
        have HU1 := Lib.hid hu1; clear hu1
        have HU2 := Lib.hid hu2; clear hu2
        by_cases hjl : j < 22
        · have h1 := O0.out.cell j (by omega)
          have h2 := O0.out.cell (j + 22) (by omega)
          have hf1 := O0.out.frozen j
          have hf2 := O0.out.frozen (j + 22)
          have hy1 := HI2.out.bd j (by omega)
          have hz1 := HI2.out.bd (j + 22) (by omega)
          rw [← (HU2.out j (Nat.le_refl _) hjl).1] at hy1
          rw [← (HU2.out j (Nat.le_refl _) hjl).2] at hz1
          obtain ⟨y, hy⟩ : ∃ y, y = u j := ⟨_, rfl⟩
          obtain ⟨z, hz⟩ : ∃ z, z = u (j + 22) := ⟨_, rfl⟩
          rw [← hy] at h1 hy1
          rw [← hz] at h2 hz1
          have Hy := Lib.hid hy; clear hy
          have Hz := Lib.hid hz; clear hz
          obtain ⟨hy0, hy1⟩ := hy1
          obtain ⟨hz0, hz1⟩ := hz1
          have hne : (j = j + 22) = False := by simp
          go_wp2_with fail
          go_region
          go_wp2_with fail
          go_roundw
          case measure => simp [intOf]; omega
          case rel =>
           refine ⟨j + 1, upd (upd u j (y + 9728 * z)) (j + 22) 0, by omega, by go_num, ?_, ?_, (O0.out.set _ _).set _ _, (O1.out.other _ _ (by simp)).other _ _ (by simp), ((hB.setCell (Nat.le_refl _) _).setCell (Nat.le_refl _) _).drew⟩
           · intro l hl
             by_cases e : l = j
             · subst e
               rw [qD _ _ _ _ (by omega), qw, qw, Hy.out, Hz.out, (HU2.out l (Nat.le_refl _) hjl).1, (HU2.out l (Nat.le_refl _) hjl).2]
               exact ⟨rfl, rfl⟩
             · rw [qD _ _ _ _ (by omega), qD _ _ _ _ e, qD _ _ _ _ (by omega), qD _ _ _ _ (by omega)]
               exact HU1.out l (by omega)
           · intro l hl hl'
             rw [qD _ _ _ _ (by omega), qD _ _ _ _ (by omega), qD _ _ _ _ (by omega), qD _ _ _ _ (by omega)]
             exact HU2.out l (by omega) hl'
        · obtain rfl : j = 22 := by omega
          have hI1 := inv1_of n k g hlt HI2.out u (fun i hi => (HU1.out i hi).1) (fun i hi hi' => by
           have := (HU1.out (i - 22) (by omega)).2
           rwa [show i - 22 + 22 = i by omega] at this)
          have HI1 := Lib.hid hI1; clear hI1
          clear HU1 HU2 hjl hj N0 N1 HI2 hB'
          go_wp2_with fail
          go_roundw
          case measure => simp [intOf]; omega
          case rel => exact ⟨k + 1, u, by omega, by go_num, HI1.out, O0.out, O1.out, hB⟩
  · obtain rfl : k = 5 := by omega
    have HI4 := Lib.hid (inv4_of n h HI.out)
    clear HI hlt hk HF
    go_wp2_with fail
    obtain ⟨w1, rfl⟩ : ∃ w1 : World, w1 = wr := ⟨_, rfl⟩
    -- what is beyond 255 bits
    go_loopw [8] (fun i wr => ∃ (k : Nat) (h : Nat → Int), k ≤ 2 ∧ i = .int .i64 k ∧ Inv4 n k h ∧ Has wr w.heap.size (row .i64 44 h) 101 ∧ HasN wr (w.heap.size + 1) 22 40 ∧ Below w.heap.size w wr) (fun i _ => 2 - (intOf i).toNat)
    case atStart => exact ⟨0, h, by omega, rfl, HI4.out, M0.out, M1.out, hB⟩
    case round =>
     clear M0 M1 HI4 hB
     obtain ⟨k, h, hk, rfl, hI, m0, m1, hB⟩ := hrel
     have M0 := Lib.hid m0; clear m0
     have M1 := Lib.hid m1; clear m1
     have HI := Lib.hid hI; clear hI
     by_cases hlt : k < 2
     · have h1 := M0.out.cell 0 (by omega)
       have h2 := M0.out.cell 21 (by omega)
       have hf1 := M0.out.frozen 0
       have hf2 := M0.out.frozen 21
       have hy1 := HI.out.bd 0 (by omega)
       have hz1 := HI.out.bd 21 (by omega)
       obtain ⟨y, hy⟩ : ∃ y, y = h 0 := ⟨_, rfl⟩
       obtain ⟨z, hz⟩ : ∃ z, z = h 21 := ⟨_, rfl⟩
       rw [← hy] at h1 hy1
       rw [← hz] at h2 hz1
       have hm : mid h = upd (upd h 21 (z % 8)) 0 (y + 19 * (z / 8)) := by rw [hy, hz]; rfl
       have m2 := (M0.out.set 21 (z % 8)).set 0 (y + 19 * (z / 8))
       rw [← hm] at m2
       have M2 := Lib.hid m2; clear m2
       have hM1 := (M1.out.other ⟨w.heap.size, 21, none⟩ (.int .i64 (z % 8)) (by simp)).other ⟨w.heap.size, 0, none⟩ (.int .i64 (y + 19 * (z / 8))) (by simp)
       have M3 := Lib.hid hM1; clear hM1
       have hB2 := (hB.setCell (p := ⟨w.heap.size, 21, none⟩) (by simp) (.int .i64 (z % 8))).setCell (p := ⟨w.heap.size, 0, none⟩) (by simp) (.int .i64 (y + 19 * (z / 8)))
       have HB2 := Lib.hid hB2; clear hB2
       have Hy := Lib.hid hy; clear hy
       have Hz := Lib.hid hz; clear hz
       have Hm := Lib.hid hm; clear hm
       obtain ⟨hy0, hy1⟩ := hy1
       obtain ⟨hz0, hz1⟩ := hz1
       go_wp2_with fail
       go_loopw [10] (fun i wr => ∃ (j : Nat) (g : Nat → Int), j ≤ 21 ∧ i = .int .i64 j ∧ (∀ l, l < j → 0 ≤ g l ∧ g l < 4096) ∧ (∀ l, j < l → l < 22 → g l = mid h l) ∧ 0 ≤ g j ∧ g j ≤ 1048576 ∧ qr 4096 g 22 = qr 4096 (mid h) 22 ∧ Has wr w.heap.size (row .i64 44 g) 101 ∧ HasN wr (w.heap.size + 1) 22 40 ∧ Below w.heap.size w wr) (fun i _ => 21 - (intOf i).toNat)
       case atStart =>
        have hb := mid_bd h HI.out.bd 0 (by omega)
        exact ⟨0, mid h, by omega, rfl, fun l hl => by omega, fun _ _ _ => rfl, hb.1, by omega, rfl, M2.out, M3.out, HB2.out⟩
       case round =>
        obtain ⟨j, g, hj, rfl, hg1, hg2, hg3, hg4, hs, m0, m1, hB'⟩ := hrel
        clear M2 M3 h1 h2 hf1 hf2
        have N0 := Lib.hid m0; clear m0
        have N1 := Lib.hid m1; clear m1
        have HG1 := Lib.hid hg1; clear hg1
        have HG2 := Lib.hid hg2; clear hg2
        have HS := Lib.hid hs; clear hs
        by_cases hjl : j < 21
        · have h1 := N0.out.cell j (by omega)
          have h2 := N0.out.cell (j + 1) (by omega)
          have hf1 := N0.out.frozen j
          have hf2 := N0.out.frozen (j + 1)
          have hv1 := mid_bd h HI.out.bd (j + 1) (by omega)
          rw [← HG2.out (j + 1) (by omega) (by omega)] at hv1
          obtain ⟨u, hu⟩ : ∃ u, u = g j := ⟨_, rfl⟩
          obtain ⟨v, hv⟩ : ∃ v, v = g (j + 1) := ⟨_, rfl⟩
          rw [← hu] at h1 hg3 hg4
          rw [← hv] at h2 hv1
          have Hu := Lib.hid hu; clear hu
          have Hv := Lib.hid hv; clear hv
          obtain ⟨hv0, hv1⟩ := hv1
          have hne : (j + 1 = j) = False := by simp
          go_wp2_with fail
          go_region
          go_wp2_with fail
          go_roundw
          case measure => simp [intOf]; omega
          case rel =>
           refine ⟨j + 1, upd (upd g (j + 1) (v + u / 4096)) j (u % 4096), by omega, by go_num, ?_, ?_, ?_, ?_, ?_, (N0.out.set _ _).set _ _, (N1.out.other _ _ (by simp)).other _ _ (by simp), ((hB'.setCell (Nat.le_refl _) _).setCell (Nat.le_refl _) _).drew⟩
           · intro l hl
             by_cases e : l = j
             · subst e; rw [qw]; omega
             · rw [qD _ _ _ _ e, qD _ _ _ _ (by omega)]; exact HG1.out l (by omega)
           · intro l hl hl'
             rw [qD _ _ _ _ (by omega), qD _ _ _ _ (by omega)]; exact HG2.out l (by omega) hl'
           · rw [qD _ _ _ _ (by omega), qw]; omega
           · rw [qD _ _ _ _ (by omega), qw]; omega
           · rw [Hu.out, Hv.out, pass_sum g j hjl]; exact HS.out
        · obtain rfl : j = 21 := by omega
          have hI1 := inv4_step n k h g hlt HI.out HG1.out hg3 HS.out
          have HI1 := Lib.hid hI1; clear hI1
          clear HG1 HG2 HS hjl hj hg3 hg4
          go_wp2_with fail
          go_roundw
          case measure => simp [intOf]; omega
          case rel => exact ⟨k + 1, g, by omega, by go_num, HI1.out, N0.out, N1.out, hB'⟩
     · obtain rfl : k = 2 := by omega
       have HI4 := Lib.hid (inv4_end n h HI.out)
       clear HI hlt hk
       go_wp2_with fail
       have hlt1 := M1.out.lt
       have hne : ¬ wr.heap.size = w.heap.size := by omega
       have hne' : ¬ w.heap.size = wr.heap.size := by omega
       have N0 := Lib.hid (M0.out.alloc (.cells (row .i64 22 fun _ => 0) 40))
       have N1 := Lib.hid (M1.out.alloc (.cells (row .i64 22 fun _ => 0) 40))
       have N2 := Lib.hid (Has.new wr (row .i64 22 fun _ => 0) 40)
       have HB := Lib.hid (hB.alloc (by omega) (.cells (row .i64 22 fun _ => 0) 40))
       clear M0 M1 hB
       obtain ⟨w3, rfl⟩ : ∃ w3 : World, w3 = wr := ⟨_, rfl⟩
       go_loopw [12] (fun i wx => ∃ (j : Nat) (g : Nat → Int), j ≤ 22 ∧ i = .int .i64 j ∧ (∀ l, l < j → g l = h l) ∧ Has wx w.heap.size (row .i64 44 h) 101 ∧ HasN wx (w.heap.size + 1) 22 40 ∧ Has wx w3.heap.size (row .i64 22 g) 40 ∧ Below w.heap.size w wx) (fun i _ => 22 - (intOf i).toNat)
       case atStart => exact ⟨0, fun _ => 0, by omega, rfl, fun l hl => by omega, N0.out, N1.out, N2.out, HB.out⟩
       case round =>
        clear N0 N1 N2 HB
        obtain ⟨j, g, hj, rfl, hg, m0, m1, m2, hB⟩ := hrel
        have N0 := Lib.hid m0; clear m0
        have N1 := Lib.hid m1; clear m1
        have N2 := Lib.hid m2; clear m2
        have HG := Lib.hid hg; clear hg
        by_cases hjl : j < 22
        · have h1 := N0.out.cell j (by omega)
          have h2 := N2.out.cell j (by omega)
          have hf2 := N2.out.frozen j
          obtain ⟨u, hu⟩ : ∃ u, u = h j := ⟨_, rfl⟩
          rw [← hu] at h1
          have Hu := Lib.hid hu; clear hu
          go_wp2_with fail
          go_roundw
          case measure => simp [intOf]; omega
          case rel =>
           refine ⟨j + 1, upd g j u, by omega, by go_num, ?_, N0.out.other _ _ (by simpa using hne'), N1.out.other _ _ (by simp; omega), N2.out.set _ _, hB.setCell (by simp; omega) _⟩
           intro l hl
           by_cases e : l = j
           · subst e; rw [qw, Hu.out]
           · rw [qD _ _ _ _ e]; exact HG.out l (by omega)
        · obtain rfl : j = 22 := by omega
          obtain ⟨m, hm, hmod, hm255⟩ := HI4.out
          rw [← Qb _ _ _ _ HG.out] at hm
          have m2 := N2.out
          rw [hm] at m2
          have O2 := Lib.hid m2; clear m2
          have HM := Lib.hid hmod; clear hmod
          have HM2 := Lib.hid hm255; clear hm255 hm
          clear N2 HG hjl hj HI4 N0
          go_wp2_with fail
          obtain ⟨w4, rfl⟩ : ∃ w4 : World, w4 = wr := ⟨_, rfl⟩
          go_loopg [101] m (fun gk _ wx => gk % PP = n % PP ∧ gk < 57896044618658097711785492504343953926634992332820282019728792003956564819968 ∧ HasN wx (w.heap.size + 1) 22 40 ∧ Has wx w3.heap.size (r22 gk) 40 ∧ Below w.heap.size w wx)
          case atStart => exact ⟨HM.out, HM2.out, N1.out, O2.out, hB⟩
          case round =>
           clear N1 O2 HM HM2 hB
           obtain ⟨hmod, h255, n1, m2, hB⟩ := hrel
           have N1 := Lib.hid n1; clear n1
           have M2 := Lib.hid m2; clear m2
           have HM := Lib.hid hmod; clear hmod
           have H255 := Lib.hid h255; clear h255
           obtain ⟨w5, rfl⟩ : ∃ w5 : World, w5 = wr := ⟨_, rfl⟩
           have hlt5 := M2.out.lt
           have hu := Try.underlying40
           have hi : (Try.prog.info? 40).map (·.size) = some (zu .i64 22 (dg 4096 gk)).length := by rw [Zf]; kernel_rfl
           have hR : w5.rangeAt w3.heap.size 0 (zu .i64 22 (dg 4096 gk)) := M2.out.range
           have hgk : gk < 4096 ^ 22 := lt_p22 _ H255.out
           have HGK := Lib.hid hgk; clear hgk
           have HB := Lib.hid hB; clear hB
           by_cases hp : gk < PP
           · have hd : decide (gk < PP) = true := by simpa using hp
             have hres : gk = n % PP := by rw [← HM.out, Nat.mod_eq_of_lt hp]
             have HR := Lib.hid hres; clear hres hp
             have Hd := Lib.hid hd; clear hd
             go_wp2_with fail
             go_region_held3 (fun w' => Below w5.heap.size w5 w' ∧ w'.rangeAt w3.heap.size 0 (zu .i64 22 (dg 4096 gk)))
              ((first | assumption | exact ⟨(Below.refl _ _).drew, hR⟩ | (have hk := qh (‹Below w5.heap.size w5 _ ∧ _›).1 hb; exact ⟨hk, Qv hR hk hlt5⟩)))
              ((first | (go_at_call 82; refine (Q8 _).mono ?_; rintro e w1 ⟨rfl, hb⟩) | (go_at_call 109; refine (qdV gk PP HGK.out qai _).mono ?_; rintro e w1 ⟨rfl, hb⟩; rw [Hd.out])))
             have hH := Lib.hid (‹Below w5.heap.size w5 _ ∧ _›).1
             have P2 := Lib.hid (M2.out.below hH.out hlt5)
             obtain ⟨Z, hZ, m1⟩ := N1.out.below hH.out N1.out.lt
             have P1 := Lib.hid m1; clear m1
             have HZ := Lib.hid hZ; clear hZ
             have HBB := Lib.hid ((below_setRow (HB.out.trans (hH.out.mono HB.out.size)) (w.heap.size + 1) (r22 gk) (by omega)))
             clear hR hu hi
             go_wp2_with (first | (refine wpList_load_row rfl 40 _ rfl w3.heap.size rfl 40 (r22 gk) (0, 0) _ P2.out Try.underlying40 rfl (by rw [qe]; kernel_rfl) ?_) | (refine wpList_store_row rfl 40 _ _ rfl (w.heap.size + 1) _ rfl rfl 40 Z P1.out (by rw [qe]; kernel_rfl) (HZ.out.trans (qe _).symm) (qp _ _ _) ?_))
             exact bodyPost_ret (v := .agg (r22 (n % PP))) (results_cell_row (t := 40) (by rfl) _ _ (w.heap.size + 1) _ _ _ rfl ((P1.out.setRow _).trans (by rw [← HR.out])) Try.underlying40 rfl (by rw [qe]; kernel_rfl)) rfl ⟨rfl, HBB.out⟩
           · have hd : decide (gk < PP) = false := by simpa using hp
             have Hp := Lib.hid (Nat.not_lt.1 hp); clear hp
             have Hd := Lib.hid hd; clear hd
             go_wp2_with fail
             go_region_held3 (fun w' => Below w5.heap.size w5 w' ∧ w'.rangeAt w3.heap.size 0 (zu .i64 22 (dg 4096 gk)))
              ((first | exact ⟨(Below.refl _ _).drew, hR⟩ | exact (‹Below w5.heap.size w5 _ ∧ _›) | (have hk := qh (‹Below w5.heap.size w5 _ ∧ _›).1 hb; exact ⟨hk, Qv hR hk hlt5⟩)))
              ((first | (go_at_call 82; refine (Q8 _).mono ?_; rintro e w1 ⟨rfl, hb⟩) | (go_at_call 109; refine (qdV gk PP HGK.out qai _).mono ?_; rintro e w1 ⟨rfl, hb⟩; rw [Hd.out])))
             have hH := Lib.hid (‹Below w5.heap.size w5 _ ∧ _›).1
             obtain ⟨w6, rfl⟩ : ∃ w6 : World, w6 = w1 := ⟨_, rfl⟩
             have P2 := Lib.hid (M2.out.below hH.out hlt5)
             have P1 := Lib.hid (N1.out.below hH.out N1.out.lt)
             have HBB := Lib.hid (HB.out.trans (hH.out.mono HB.out.size))
             clear hR
             obtain ⟨gd, hgd⟩ : ∃ d, d = gk - PP := ⟨_, rfl⟩
             have hl := fun w => Zn gk PP Hp.out HGK.out w
             rw [← hgd] at hl
             have HL := Lib.hid hl; clear hl
             have He := Lib.hid hgd; clear hgd
             have hlt6 := P2.out.lt
             obtain ⟨gd, hgd⟩ : ∃ d, d = gk - PP := ⟨_, rfl⟩
             have hl := fun w => Zn gk PP Hp.out HGK.out w
             rw [← hgd] at hl
             have HL := Lib.hid hl; clear hl
             have He := Lib.hid hgd; clear hgd
             clear hi hu
             go_wp2_with fail
             refine wp_region_noPanic ?_
             refine zF 3 (fun w' => Below w6.heap.size w6 w' ∧ Has w' w3.heap.size (r22 gk) 40) (by kernel_rfl) ?_
             refine Qw (i := 0) rfl (by kernel_rfl) (by kernel_rfl) (by kernel_rfl) (by kernel_rfl) (by kernel_rfl) (fun _ _ _ h => h) (qj (by rfl) 40 _ rfl w3.heap.size rfl 40 (r22 gk) (fun w h => h.2) Try.underlying40 rfl (by rw [qe]; kernel_rfl)) ⟨(Below.refl _ _).drew, P2.out⟩ ?_
             simp only [Act.put, List.setIfInBounds_toArray]
             refine qY (i := 1) (by kernel_rfl) rfl (fun K hK => ?_)
             go_simp
             go_at_call 82
             refine (Q8 _).mono ?_
             rintro e w7 ⟨rfl, hb⟩
             refine hK.out _ _ (fun _ => ⟨qh (Below.refl _ _).drew hb, P2.out.below (qh (Below.refl _ _).drew hb) hlt6⟩) ?_
             have hk7 := qh (w4 := w6) (Below.refl _ _).drew hb
             clear hK K hb
             refine qY (i := 2) (by kernel_rfl) rfl (fun K hK => ?_)
             go_simp
             go_at_call 81
             refine (HL.out _).mono ?_
             rintro e w8 ⟨rfl, hb⟩
             have hk8 := qh hk7 hb
             refine hK.out _ _ (fun _ => ⟨hk8, P2.out.below hk8 hlt6⟩) ?_
             clear hK K hb hk7
             refine qY (i := 3) (by kernel_rfl) rfl (fun K hK => ?_)
             rw [if_pos (by rfl)]
             refine wp_store_row 40 _ _ rfl w3.heap.size _ rfl rfl 40 (r22 gk) (P2.out.below hk8 hlt6) (by rw [qe]; kernel_rfl) ((qe _).trans (qe _).symm) (qp _ _ _) ?_
             refine hK.out _ _ (fun h => (h rfl).elim) ?_
             clear hK K
             simp only [Act.put, List.setIfInBounds_toArray]
             refine qu (by kernel_rfl) (NoPanic.normal ?_)
             go_wp2_with fail
             go_roundg gd
             case measure => rw [He.out]; exact Nat.sub_lt (Nat.lt_of_lt_of_le qH Hp.out) qH
             case rel =>
              refine ⟨?_, ?_, (P1.out.below hk8 P1.out.lt).setRow_other _ _ (by omega), (P2.out.below hk8 hlt6).setRow _, below_setRow (HBB.out.trans (hk8.mono HBB.out.size)) _ _ (by omega)⟩
              · rw [He.out, ← HM.out]; exact (Nat.mod_eq_sub_mod Hp.out).symm
              · rw [He.out]; exact Nat.lt_of_le_of_lt (Nat.sub_le _ _) H255.out
end
section
open Go.RowKit Go.Lib
theorem qaQ (n : Nat) (h : Nat → Int) (hb : ∀ i, i < 44 → 0 ≤ h i ∧ h i ≤ 1099511627776) (hs : qr 4096 h 44 = n) (hn : n < bnd 0) : qdw n 0 h :=
 ⟨hb, ⟨n, hs, rfl, hn⟩, fun h => by omega, fun h => by omega⟩
theorem bnd0 : bnd 0 = 878694100496718043517683302282418331810487718418343092402491322775749527474899974671687634004666183037093927858109549828751614463963730408009475621262727315456 := by unfold bnd; rw [if_pos rfl]
theorem n22 : (4096 : Nat) ^ 22 = 29642774844752946028434172162224104410437116074403984394101141506025761187823616 := by decide +kernel
theorem qaF (a : Nat) (ha : a < 4096 ^ 22) : qr 4096 (dg 4096 a) 22 = a := by
 have := Q7 4096 a 22
 rwa [Nat.mod_eq_of_lt ha] at this
theorem qaA (n i : Nat) : dg 4096 n i ≤ 4095 := by have := (zV 4096 n i (by decide)).2; omega
theorem qah (n i : Nat) : 0 ≤ dg 4096 n i := (zV 4096 n i (by decide)).1
theorem plus_inv (a b : Nat) (ha : a < 4096 ^ 22) (hb : b < 4096 ^ 22) (h : Nat → Int) (hl : ∀ i, i < 22 → h i = dg 4096 a i + dg 4096 b i) (hh : ∀ i, 22 ≤ i → h i = 0) : qdw (a + b) 0 h := by
 refine qaQ _ h (fun i hi => ?_) ?_ ?_
 · by_cases h2 : i < 22
   · rw [hl i h2]
     have h1 := qaA a i; have h3 := qaA b i; have h4 := qah a i; have h5 := qah b i
     omega
   · rw [hh i (by omega)]; omega
 · rw [show (44 : Nat) = 22 + 22 from rfl, Zc, Q6 4096 (fun j => h (j + 22)) 22 (fun i hi => hh (i + 22) (by omega)), zi 4096 h (fun j => dg 4096 a j + 1 * dg 4096 b j) 22 (fun i hi => by rw [hl i hi, Int.one_mul]), sumf_lin, qaF a ha, qaF b hb]
   omega
 · rw [bnd0]; rw [n22] at ha hb; omega
theorem ZI (a b : Nat) (ha : a < 4096 ^ 22) (hb : b < 4096 ^ 22) (w : World) :
 Calls Try.prog 38 #[.agg (r22 a), .agg (r22 b)] w fun e w' => e = .returned (.agg (r22 ((a + b) % PP))) ∧ Below w.heap.size w w' := by
 have HI := Lib.hid (plus_inv a b ha hb); clear ha hb
 go_enter Try.func38, Try.ntmps38
 go_wp2_with fail
 go_loopw [6] (fun i wr => ∃ (k : Nat) (h : Nat → Int), k ≤ 22 ∧ i = .int .i64 k ∧ (∀ j, j < k → h j = dg 4096 a j + dg 4096 b j) ∧ (∀ j, k ≤ j → h j = 0) ∧ Has wr w.heap.size (r22 a) 40 ∧ Has wr (w.heap.size + 1) (r22 b) 40 ∧ HasN wr (w.heap.size + 1 + 1) 22 40 ∧ Has wr (w.heap.size + 1 + 1 + 1) (row .i64 44 h) 101 ∧ Below w.heap.size w wr) (fun i _ => 22 - (intOf i).toNat)
 case atStart =>
  exact ⟨0, fun _ => 0, by omega, rfl, fun j hj => by omega, fun _ _ => rfl, ((Has.new _ _ _).alloc _ |>.alloc _).alloc _, ((Has.new1 _ _ _ _).alloc _).alloc _, (HasN.new2 _ _ _ _ _ 22 rfl).alloc _, Has.new3 _ _ _ _ _ _, qae _ _ _ _ _⟩
 case round =>
  obtain ⟨k, h, hk, rfl, hl, hh, m0, m1, m2, m3, hB⟩ := hrel
  have M0 := Lib.hid m0; clear m0
  have M1 := Lib.hid m1; clear m1
  have M2 := Lib.hid m2; clear m2
  have M3 := Lib.hid m3; clear m3
  have HL := Lib.hid hl; clear hl
  have HH := Lib.hid hh; clear hh
  by_cases hlt : k < 22
  · have h1 := M0.out.cell k hlt
    have h2 := M1.out.cell k hlt
    have h3 := M3.out.cell k (by omega)
    have hfz := M3.out.frozen k
    have x0 := qah a k
    have x1 := qaA a k
    have y0 := qah b k
    have y1 := qaA b k
    obtain ⟨x, hx⟩ : ∃ x, x = dg 4096 a k := ⟨_, rfl⟩
    obtain ⟨y, hy⟩ : ∃ y, y = dg 4096 b k := ⟨_, rfl⟩
    rw [← hx] at h1 x0 x1
    rw [← hy] at h2 y0 y1
    have Hx := Lib.hid hx; clear hx
    have Hy := Lib.hid hy; clear hy
    go_wp2_with fail
    go_region
    go_wp2_with fail
    go_roundw
    case measure => simp [intOf]; omega
    case rel =>
     refine ⟨k + 1, upd h k (x + y), by omega, by go_num, ?_, ?_, M0.out.other _ _ (by simp <;> omega), M1.out.other _ _ (by simp <;> omega), M2.out.other _ _ (by simp), M3.out.set _ _, (hB.setCell (by simp <;> omega) _).drew⟩
     · intro j hj
       by_cases e : j = k
       · subst e; rw [qw, Hx.out, Hy.out]
       · rw [qD _ _ _ _ e]; exact HL.out j (by omega)
     · intro j hj; rw [qD _ _ _ _ (by omega)]; exact HH.out j (by omega)
  · obtain rfl : k = 22 := by omega
    have HC := Lib.hid (HI.out h HL.out HH.out)
    go_wp2_with (first | (refine wpList_load_row rfl 101 _ rfl (w.heap.size + 1 + 1 + 1) rfl 101 (row .i64 44 h) (0, 0) _ M3.out Try.underlying101 rfl (by kernel_rfl) ?_))
    refine (qaO _ h HC.out _).mono ?_
    rintro e w1 ⟨rfl, hb1⟩
    obtain ⟨Z, hZ, m1⟩ := M2.out.below hb1 M2.out.lt
    have P1 := Lib.hid m1; clear m1
    have HZ := Lib.hid hZ; clear hZ
    have HBB := Lib.hid (below_setRow (hB.trans (hb1.mono hB.size)) (w.heap.size + 1 + 1) (r22 ((a + b) % PP)) (by omega))
    clear hb1
    go_wp2_with (refine wpList_store_row rfl 40 _ _ rfl (w.heap.size + 1 + 1) _ rfl rfl 40 Z P1.out (by rw [qe]; kernel_rfl) (HZ.out.trans (qe _).symm) (qp _ _ _) ?_)
    exact bodyPost_ret (v := .agg (r22 ((a + b) % PP))) (results_cell_row (t := 40) (by rfl) _ _ (w.heap.size + 1 + 1) _ _ _ rfl (P1.out.setRow _) Try.underlying40 rfl (by rw [qe]; kernel_rfl)) rfl ⟨rfl, HBB.out⟩
end
section
open Go.RowKit Go.Lib
theorem mul_bd (x y : Int) (hx0 : 0 ≤ x) (hx : x ≤ 4095) (hy0 : 0 ≤ y) (hy : y ≤ 4095) : 0 ≤ x * y ∧ x * y ≤ 16769025 :=
 ⟨Int.mul_nonneg hx0 hy0, by have := Int.mul_le_mul hx hy hy0 (by decide); omega⟩
theorem times_inv (a b : Nat) (ha : a < PP) (hb : b < PP) (h : Nat → Int) (hd : ∀ j, j < 44 → 0 ≤ h j ∧ h j ≤ 484 * 16769025) (hs : qr 4096 h 44 = qr 4096 (dg 4096 a) 22 * b) : qdw (a * b) 0 h := by
 have h22 := qai
 refine qaQ _ h (fun i hi => by have := hd i hi; omega) ?_ ?_
 · rw [hs, qaF a (by omega)]; norm_cast
 · rw [bnd0]
   have e : PP < 2 ^ 255 := by decide +kernel
   have h1 : a * b < 2 ^ 255 * 2 ^ 255 := Nat.mul_lt_mul'' (by omega) (by omega)
   have e2 : (2 : Nat) ^ 255 * 2 ^ 255 = 3351951982485649274893506249551461531869841455148098344430890360930441007518386744200468574541725856922507964546621512713438470702986642486608412251521024 := by decide +kernel
   omega
theorem qO (a b : Nat) (ha : a < PP) (hb : b < PP) (w : World) :
 Calls Try.prog 32 #[.agg (r22 a), .agg (r22 b)] w fun e w' => e = .returned (.agg (r22 (a * b % PP))) ∧ Below w.heap.size w w' := by
 have hb2 : (b : Int) = qr 4096 (dg 4096 b) 22 := (qaF b (Nat.lt_trans hb qai)).symm
 have HB2 := Lib.hid hb2; clear hb2
 have HI := Lib.hid (times_inv a b ha hb); clear ha hb
 go_enter Try.func32, Try.ntmps32
 go_wp2_with fail
 go_loopw [6] (fun i wr => ∃ (k : Nat) (h : Nat → Int), k ≤ 22 ∧ i = .int .i64 k ∧ (∀ j, j < 44 → 0 ≤ h j ∧ h j ≤ 22 * (k : Int) * 16769025) ∧ qr 4096 h 44 = qr 4096 (dg 4096 a) k * b ∧ Has wr w.heap.size (r22 a) 40 ∧ Has wr (w.heap.size + 1) (r22 b) 40 ∧ HasN wr (w.heap.size + 1 + 1) 22 40 ∧ Has wr (w.heap.size + 1 + 1 + 1) (row .i64 44 h) 101 ∧ Below w.heap.size w wr) (fun i _ => 22 - (intOf i).toNat)
 case atStart =>
  exact ⟨0, fun _ => 0, by omega, rfl, fun j hj => by simp, by rw [Q6 _ _ _ (fun _ _ => rfl)]; simp [qr], ((Has.new _ _ _).alloc _ |>.alloc _).alloc _, ((Has.new1 _ _ _ _).alloc _).alloc _, (HasN.new2 _ _ _ _ _ 22 rfl).alloc _, Has.new3 _ _ _ _ _ _, qae _ _ _ _ _⟩
 case round =>
  obtain ⟨i, h0, hi, rfl, hd, hs, m0, m1, m2, m3, hB⟩ := hrel
  have M0 := Lib.hid m0; clear m0
  have M1 := Lib.hid m1; clear m1
  have M2 := Lib.hid m2; clear m2
  have M3 := Lib.hid m3; clear m3
  have HD := Lib.hid hd; clear hd
  have HS := Lib.hid hs; clear hs
  by_cases hlt : i < 22
  · go_wp2_with fail
    obtain ⟨wo, rfl⟩ : ∃ wo : World, wo = wr := ⟨_, rfl⟩
    go_loopw [7] (fun s wr => ∃ (k : Nat) (h : Nat → Int), k ≤ 22 ∧ s = .int .i64 k ∧ (∀ j, j < 44 → 0 ≤ h j ∧ h j ≤ (22 * (i : Int) + k) * 16769025) ∧ qr 4096 h 44 = qr 4096 (dg 4096 a) i * b + dg 4096 a i * 4096 ^ i * qr 4096 (dg 4096 b) k ∧ Has wr w.heap.size (r22 a) 40 ∧ Has wr (w.heap.size + 1) (r22 b) 40 ∧ HasN wr (w.heap.size + 1 + 1) 22 40 ∧ Has wr (w.heap.size + 1 + 1 + 1) (row .i64 44 h) 101 ∧ Below w.heap.size w wr) (fun s _ => 22 - (intOf s).toNat)
    case atStart => exact ⟨0, h0, by omega, rfl, fun j hj => by have := HD.out j hj; omega, by rw [show qr 4096 (dg 4096 b) 0 = 0 from rfl, Int.mul_zero, Int.add_zero]; exact HS.out, M0.out, M1.out, M2.out, M3.out, hB⟩
    case round =>
     clear M0 M1 M2 M3 hB
     obtain ⟨k, h, hk, rfl, hd, hs, m0, m1, m2, m3, hB⟩ := hrel
     have M0 := Lib.hid m0; clear m0
     have M1 := Lib.hid m1; clear m1
     have M2 := Lib.hid m2; clear m2
     have M3 := Lib.hid m3; clear m3
     have HE := Lib.hid hd; clear hd
     have HT := Lib.hid hs; clear hs
     by_cases hlk : k < 22
     · have h1 := M0.out.cell i hlt
       have h2 := M1.out.cell k hlk
       have h3 := M3.out.cell (i + k) (by omega)
       have hfz := M3.out.frozen (i + k)
       have x0 := qah a i
       have x1 := qaA a i
       have y0 := qah b k
       have y1 := qaA b k
       have hz := HE.out (i + k) (by omega)
       obtain ⟨x, hx⟩ : ∃ x, x = dg 4096 a i := ⟨_, rfl⟩
       obtain ⟨y, hy⟩ : ∃ y, y = dg 4096 b k := ⟨_, rfl⟩
       obtain ⟨z, hzz⟩ : ∃ z, z = h (i + k) := ⟨_, rfl⟩
       rw [← hx] at h1 x0 x1
       rw [← hy] at h2 y0 y1
       rw [← hzz] at h3 hz
       have hxy := mul_bd x y x0 x1 y0 y1
       obtain ⟨xy0, xy1⟩ := hxy
       obtain ⟨z0, z1⟩ := hz
       have Hx := Lib.hid hx; clear hx
       have Hy := Lib.hid hy; clear hy
       have Hz := Lib.hid hzz; clear hzz
       go_wp2_with fail
       go_region
       go_wp2_with fail
       go_roundw
       case measure => simp [intOf]; omega
       case rel =>
        refine ⟨k + 1, upd h (i + k) (z + x * y), by omega, by go_num, ?_, ?_, M0.out.other _ _ (by simp <;> omega), M1.out.other _ _ (by simp <;> omega), M2.out.other _ _ (by simp <;> omega), M3.out.set _ _, (hB.setCell (by simp <;> omega) _).drew⟩
        · intro j hj
          by_cases e : j = i + k
          · subst e; rw [qw]; omega
          · rw [qD _ _ _ _ e]; have := HE.out j hj; omega
        · rw [Qs _ _ _ _ _ (by omega), HT.out, ← Hz.out, ← Hx.out]
          simp only [qr]
          rw [← Hy.out, Int.pow_add]
          grind
     · obtain rfl : k = 22 := by omega
       go_wp2_with fail
       go_roundw
       case measure => simp [intOf]; omega
       case rel =>
        refine ⟨i + 1, h, by omega, by go_num, fun j hj => by have := HE.out j hj; omega, ?_, M0.out, M1.out, M2.out, M3.out, hB⟩
        rw [HT.out, ← HB2.out]
        simp only [qr]
        rw [Int.add_mul]
  · obtain rfl : i = 22 := by omega
    have HC := Lib.hid (HI.out h0 (fun j hj => by have := HD.out j hj; omega) HS.out)
    go_wp2_with (first | (refine wpList_load_row rfl 101 _ rfl (w.heap.size + 1 + 1 + 1) rfl 101 (row .i64 44 h0) (0, 0) _ M3.out Try.underlying101 rfl (by kernel_rfl) ?_))
    refine (qaO _ h0 HC.out _).mono ?_
    rintro e w1 ⟨rfl, hb1⟩
    obtain ⟨Z, hZ, m1⟩ := M2.out.below hb1 M2.out.lt
    have P1 := Lib.hid m1; clear m1
    have HZ := Lib.hid hZ; clear hZ
    have HBB := Lib.hid (below_setRow (hB.trans (hb1.mono hB.size)) (w.heap.size + 1 + 1) (r22 (a * b % PP)) (by omega))
    clear hb1
    go_wp2_with (refine wpList_store_row rfl 40 _ _ rfl (w.heap.size + 1 + 1) _ rfl rfl 40 Z P1.out (by rw [qe]; kernel_rfl) (HZ.out.trans (qe _).symm) (qp _ _ _) ?_)
    exact bodyPost_ret (v := .agg (r22 (a * b % PP))) (results_cell_row (t := 40) (by rfl) _ _ (w.heap.size + 1 + 1) _ _ _ rfl (P1.out.setRow _) Try.underlying40 rfl (by rw [qe]; kernel_rfl)) rfl ⟨rfl, HBB.out⟩
theorem Zh (a b : Nat) (ha : a < PP) (hb : b < PP) (w : World) :
 Calls Try.prog 40 #[.agg (r22 a), .agg (r22 b)] w fun e w' => e = .returned (.agg (r22 ((a + (PP - b)) % PP))) ∧ Below w.heap.size w w' := by
 have h22 := qai
 have hpb : PP - b < 4096 ^ 22 := Nat.lt_of_le_of_lt (Nat.sub_le _ _) h22
 have ha2 := Nat.lt_trans ha h22
 obtain ⟨d, hd⟩ : ∃ d, d = PP - b := ⟨_, rfl⟩
 have hl := fun w => Zn PP b (Nat.le_of_lt hb) h22 w
 rw [← hd] at hl hpb ⊢
 have hp := fun w => ZI a d ha2 hpb w
 obtain ⟨r, hr⟩ : ∃ r, r = (a + d) % PP := ⟨_, rfl⟩
 rw [← hr] at hp ⊢
 have HL := Lib.hid hl; clear hl
 have HP := Lib.hid hp; clear hp
 clear hr hd ha hb h22 hpb ha2
 go_enter Try.func40, Try.ntmps40
 go_wp2_with fail
 refine wp_region_noPanic ?_
 refine zg 5 (by kernel_rfl) ?_
 intro W0 hW0
 have M0 := Lib.hid (show Has W0 w.heap.size (r22 a) 40 by rw [hW0]; exact ((Has.new _ _ _).alloc _).alloc _)
 have M1 := Lib.hid (show Has W0 (w.heap.size + 1) (r22 b) 40 by rw [hW0]; exact (Has.new1 _ _ _ _).alloc _)
 have M2 := Lib.hid (show HasN W0 (w.heap.size + 1 + 1) 22 40 by rw [hW0]; exact HasN.new2 _ _ _ _ _ 22 rfl)
 have HB := Lib.hid (show Below w.heap.size w W0 by rw [hW0]; exact QD _ _ _ _)
 clear hW0
 refine Qw (i := 0) rfl (by kernel_rfl) (by kernel_rfl) (by kernel_rfl) (by kernel_rfl) (by kernel_rfl) (fun _ _ _ h => h) (qj (by rfl) 40 _ rfl (w.heap.size) rfl 40 (r22 a) (fun _ h => M0.out.below h M0.out.lt) Try.underlying40 rfl (by rw [qe]; kernel_rfl)) ((Below.refl _ _).drew) ?_
 (try simp only [Act.put]); (try simp only [List.setIfInBounds_toArray])
 refine Qw (i := 2) rfl (by kernel_rfl) (by kernel_rfl) (by kernel_rfl) (by kernel_rfl) (by kernel_rfl) (fun _ _ _ h => h) (qj (by rfl) 40 _ rfl (w.heap.size + 1) rfl 40 (r22 b) (fun _ h => M1.out.below h M1.out.lt) Try.underlying40 rfl (by rw [qe]; kernel_rfl)) ((Below.refl _ _).drew) ?_
 (try simp only [Act.put]); (try simp only [List.setIfInBounds_toArray])
 refine qY (i := 1) (by kernel_rfl) rfl (fun K hK => ?_)
 go_simp
 go_at_call 82
 refine (Q8 _).mono ?_
 rintro e wW01 ⟨rfl, hb⟩
 have hkW01 := qh (Below.refl _ _).drew hb
 refine hK.out _ _ (fun _ => hkW01) ?_
 clear hK K hb
 refine qY (i := 3) (by kernel_rfl) rfl (fun K hK => ?_)
 go_simp
 go_at_call 81
 refine (HL.out _).mono ?_
 rintro e wW02 ⟨rfl, hb⟩
 have hkW02 := qh hkW01 hb
 refine hK.out _ _ (fun _ => hkW02) ?_
 clear hK K hb
 refine qY (i := 4) (by kernel_rfl) rfl (fun K hK => ?_)
 go_simp
 go_at_call 38
 refine (HP.out _).mono ?_
 rintro e wW03 ⟨rfl, hb⟩
 have hkW03 := qh hkW02 hb
 refine hK.out _ _ (fun _ => hkW03) ?_
 clear hK K hb
 obtain ⟨Z, hZ, mZ⟩ := M2.out.below hkW03 M2.out.lt
 have MZ := Lib.hid mZ; clear mZ
 have HZ := Lib.hid hZ; clear hZ
 refine qY (i := 5) (by kernel_rfl) rfl (fun K hK => ?_)
 rw [if_pos (by rfl)]
 refine wp_store_row 40 _ _ rfl (w.heap.size + 1 + 1) _ rfl rfl 40 Z MZ.out (by rw [qe]; kernel_rfl) (HZ.out.trans (qe _).symm) (qp _ _ _) ?_
 refine hK.out _ _ (fun h => (h rfl).elim) ?_
 clear hK K
 (try simp only [Act.put]); (try simp only [List.setIfInBounds_toArray])
 refine qu (by kernel_rfl) (NoPanic.normal ?_)
 go_wp2_with fail
 exact bodyPost_ret (v := .agg (r22 r)) (results_cell_row (t := 40) (by rfl) _ _ (w.heap.size + 1 + 1) _ _ _ rfl (MZ.out.setRow _) Try.underlying40 rfl (by rw [qe]; kernel_rfl)) rfl ⟨rfl, below_setRow (HB.out.trans (hkW03.mono HB.out.size)) _ _ (by omega)⟩
end
section
open Go.RowKit Go.Lib
def k32 (n : Nat) : Array Value := row .u8 32 (dg 256 n)
theorem qf (n : Nat) : (k32 n).size = 32 := QG _ _ _
theorem bit8 (n k : Nat) : (n / 256 ^ (k / 8) % 256) / 2 ^ (k % 8) % 2 = n / 2 ^ k % 2 := by
 have e : 2 ^ k = 256 ^ (k / 8) * 2 ^ (k % 8) := by
  rw [show (256 : Nat) = 2 ^ 8 from rfl, ← Nat.pow_mul, ← Nat.pow_add, Nat.div_add_mod]
 rw [e, ← Nat.div_div_eq_div_mul]
 generalize n / 256 ^ (k / 8) = q
 have hr : k % 8 < 8 := Nat.mod_lt _ (by decide)
 generalize k % 8 = r at *
 rcases (show r = 0 ∨ r = 1 ∨ r = 2 ∨ r = 3 ∨ r = 4 ∨ r = 5 ∨ r = 6 ∨ r = 7 by omega) with rfl | rfl | rfl | rfl | rfl | rfl | rfl | rfl <;> simp <;> omega
theorem bit12 (n k : Nat) : (n / 4096 ^ (k / 12) % 4096) / 2 ^ (k % 12) % 2 = n / 2 ^ k % 2 := by
 have e : 2 ^ k = 4096 ^ (k / 12) * 2 ^ (k % 12) := by
  rw [show (4096 : Nat) = 2 ^ 12 from rfl, ← Nat.pow_mul, ← Nat.pow_add, Nat.div_add_mod]
 rw [e, ← Nat.div_div_eq_div_mul]
 generalize n / 4096 ^ (k / 12) = q
 have hr : k % 12 < 12 := Nat.mod_lt _ (by decide)
 generalize k % 12 = r at *
 rcases (show r = 0 ∨ r = 1 ∨ r = 2 ∨ r = 3 ∨ r = 4 ∨ r = 5 ∨ r = 6 ∨ r = 7 ∨ r = 8 ∨ r = 9 ∨ r = 10 ∨ r = 11 by omega) with rfl | rfl | rfl | rfl | rfl | rfl | rfl | rfl | rfl | rfl | rfl | rfl <;> simp <;> omega
theorem pow12 (k : Nat) : (2 : Int) ^ (k % 12) * 4096 ^ (k / 12) = 2 ^ k := by
 rw [show (4096 : Int) = 2 ^ 12 from rfl, ← Int.pow_mul, ← Int.pow_add, Nat.mod_add_div]
theorem ZZ (n k : Nat) : n % 2 ^ (k + 1) = n % 2 ^ k + n / 2 ^ k % 2 * 2 ^ k := by
 rw [Nat.pow_succ, Nat.mod_mul, Nat.mul_comm]
theorem fig_le (B : Int) (hB : 0 < B) (f : Nat → Int) (n i : Nat) (hi : i < n) (h : ∀ j, j < n → 0 ≤ f j) : f i * B ^ i ≤ qr B f n := by
 have h1 := Qs B f n i 0 hi
 have h2 := Qk B hB (upd f i 0) n (fun j hj => by
  by_cases e : j = i
  · subst e; rw [qw]; omega
  · rw [qD _ _ _ _ e]; exact h j hj)
 rw [h1, Int.zero_sub, Int.neg_mul] at h2
 omega
theorem room12 (h : Nat → Int) (n k : Nat) (hk : k < 264) (hd : ∀ j, j < 44 → 0 ≤ h j ∧ h j < 4096) (hs : qr 4096 h 44 = ((n % 2 ^ k : Nat) : Int)) : h (k / 12) < 2 ^ (k % 12) := by
 have h1 := fig_le 4096 (by decide) h 44 (k / 12) (by omega) (fun j hj => (hd j hj).1)
 rw [hs] at h1
 have h2 : ((n % 2 ^ k : Nat) : Int) < 2 ^ k := by
  have : n % 2 ^ k < 2 ^ k := Nat.mod_lt _ (Nat.pow_pos (by decide))
  have e : ((2 ^ k : Nat) : Int) = (2 : Int) ^ k := by rw [Int.natCast_pow]; rfl
  omega
 rw [← pow12 k] at h2
 exact Int.lt_of_mul_lt_mul_right (Int.lt_of_le_of_lt h1 h2) (Int.le_of_lt (Int.pow_pos (by decide)))
theorem pow12_le (k : Nat) : (2 : Int) ^ (k % 12) ≤ 2048 := by
 have hr : k % 12 < 12 := Nat.mod_lt _ (by decide)
 generalize k % 12 = r at *
 rcases (show r = 0 ∨ r = 1 ∨ r = 2 ∨ r = 3 ∨ r = 4 ∨ r = 5 ∨ r = 6 ∨ r = 7 ∨ r = 8 ∨ r = 9 ∨ r = 10 ∨ r = 11 by omega) with rfl | rfl | rfl | rfl | rfl | rfl | rfl | rfl | rfl | rfl | rfl | rfl <;> decide
theorem div_pow_bd (x : Int) (k : Nat) (h0 : 0 ≤ x) (h1 : x < 256) : 0 ≤ x / 2 ^ k ∧ x / 2 ^ k < 256 := by
 have hp : (0 : Int) < 2 ^ k := Int.pow_pos (by decide)
 refine ⟨Int.ediv_nonneg h0 (Int.le_of_lt hp), ?_⟩
 have := Int.ediv_le_self (2 ^ k) h0
 omega
theorem of_inv (n : Nat) (h : Nat → Int) (hd : ∀ j, j < 44 → 0 ≤ h j ∧ h j < 4096) (hs : qr 4096 h 44 = ((n % 2 ^ 255 : Nat) : Int)) : qdw (n % 2 ^ 255) 0 h := by
 refine qaQ _ h (fun i hi => by have := hd i hi; omega) hs ?_
 rw [bnd0]
 have : n % 2 ^ 255 < 2 ^ 255 := Nat.mod_lt _ (Nat.pow_pos (by decide))
 have e : (2 : Nat) ^ 255 = 57896044618658097711785492504343953926634992332820282019728792003956564819968 := by decide +kernel
 omega
theorem dbl_le (b v : Int) (j m : Nat) (hb0 : 0 ≤ b) (hb : b ≤ 1) (hj : j < m) (hm : (2 : Int) ^ m ≤ 2048) (hv : v = b * 2 ^ j) : 0 ≤ v ∧ v ≤ 1024 := by
 have hp : (0 : Int) < 2 ^ j := Int.pow_pos (by decide)
 have h2 : (2 : Int) ^ (j + 1) ≤ 2 ^ m := by
  obtain ⟨d, rfl⟩ : ∃ d, m = j + 1 + d := ⟨m - (j + 1), by omega⟩
  rw [Int.pow_add 2 (j + 1) d]
  have hd : (1 : Int) ≤ 2 ^ d := by have : (0 : Int) < 2 ^ d := Int.pow_pos (by decide); omega
  have h3 : (2 : Int) ^ (j + 1) * 1 ≤ 2 ^ (j + 1) * 2 ^ d := Int.mul_le_mul_of_nonneg_left hd (Int.le_of_lt (Int.pow_pos (by decide)))
  omega
 rw [Int.pow_succ] at h2
 rcases (show b = 0 ∨ b = 1 by omega) with rfl | rfl
 · rw [hv]; simp
 · rw [hv]; omega
theorem ofbit (n k : Nat) (x : Int) (hx : x = dg 256 n (k / 8)) : x / 2 ^ (k % 8) % 2 = ((n / 2 ^ k % 2 : Nat) : Int) := by
 rw [hx, dg, ← bit8 n k]
 norm_cast
theorem qck (n : Nat) (w : World) :
 Calls Try.prog 33 #[.agg (k32 n)] w fun e w' => e = .returned (.agg (r22 (n % 2 ^ 255 % PP))) ∧ Below w.heap.size w w' := by
 have HI := Lib.hid (of_inv n)
 obtain ⟨m, hm⟩ : ∃ m, m = n % 2 ^ 255 := ⟨_, rfl⟩
 obtain ⟨r, hr⟩ : ∃ r, r = m % PP := ⟨_, rfl⟩
 have hle := fun h hi w => qaO m h hi w
 rw [← hm] at HI ⊢
 rw [← hr] at hle ⊢
 have Hle := Lib.hid hle; clear hle
 have Hm := Lib.hid hm; clear hm
 clear hr
 go_enter Try.func33, Try.ntmps33
 go_wp2_with fail
 go_loopw [4] (fun i wr => ∃ (k : Nat) (h : Nat → Int), k ≤ 255 ∧ i = .int .i64 k ∧ (∀ j, j < 44 → 0 ≤ h j ∧ h j < 4096) ∧ qr 4096 h 44 = ((n % 2 ^ k : Nat) : Int) ∧ Has wr w.heap.size (k32 n) 24 ∧ HasN wr (w.heap.size + 1) 22 40 ∧ Has wr (w.heap.size + 1 + 1) (row .i64 44 h) 101 ∧ Below w.heap.size w wr) (fun i _ => 255 - (intOf i).toNat)
 case atStart => exact ⟨0, fun _ => 0, by omega, rfl, fun j hj => by simp, by rw [Q6 _ _ _ (fun _ _ => rfl)]; simp [Nat.mod_one], ((Has.new _ _ _).alloc _).alloc _, (HasN.new1 _ _ _ _ 22 rfl).alloc _, Has.new2 _ _ _ _ _, QD _ _ _ _⟩
 case round =>
  obtain ⟨k, h, hk, rfl, hd, hs, m0, m1, m2, hB⟩ := hrel
  have M0 := Lib.hid m0; clear m0
  have M1 := Lib.hid m1; clear m1
  have M2 := Lib.hid m2; clear m2
  have Hd := Lib.hid hd; clear hd
  have Hs := Lib.hid hs; clear hs
  by_cases hlt : k < 255
  · have h1 := M0.out.cell (k / 8) (by omega)
    have x0 := (zV 256 n (k / 8) (by decide)).1
    have x1 := (zV 256 n (k / 8) (by decide)).2
    obtain ⟨x, hx⟩ : ∃ x, x = dg 256 n (k / 8) := ⟨_, rfl⟩
    rw [← hx] at h1 x0 x1
    have hbit := ofbit n k x hx
    have k0 : (0 : Int) ≤ (k : Int) % 8 := by omega
    have k1 : (k : Int) % 8 < 8 := by omega
    have k2 : (0 : Int) ≤ (k : Int) / 8 := by omega
    have k3 : (k : Int) / 8 < 32 := by omega
    obtain ⟨s0, s1⟩ := div_pow_bd x (k % 8) x0 x1
    have Hx := Lib.hid hx; clear hx
    have Hbit := Lib.hid hbit; clear hbit
    go_wp2_with fail
    obtain ⟨b, hb⟩ : ∃ b, b = x / 2 ^ (k % 8) % 2 := ⟨_, rfl⟩
    rw [← hb]
    have b0 : 0 ≤ b := by omega
    have b1 : b ≤ 1 := by omega
    have hbn : b = ((n / 2 ^ k % 2 : Nat) : Int) := hb.trans Hbit.out
    have hp12 := pow12_le k
    have Hb := Lib.hid hb; clear hb
    have Hbn := Lib.hid hbn; clear hbn
    have Hp12 := Lib.hid hp12; clear hp12
    clear h1 Hbit s0 s1
    obtain ⟨wo, rfl⟩ : ∃ wo : World, wo = wr := ⟨_, rfl⟩
    go_loop [5, 6] (fun t i => ∃ (j : Nat) (v : Int), j ≤ k % 12 ∧ i = .int .i64 j ∧ t = .int .i64 v ∧ v = b * 2 ^ j) (fun _ i => k % 12 - (intOf i).toNat)
    case atStart => exact ⟨0, b, by omega, rfl, rfl, by simp⟩
    case round =>
     obtain ⟨j, v, hj, rfl, rfl, hv⟩ := hrel
     by_cases hjl : j < k % 12
     · have hvb := dbl_le b v j (k % 12) b0 b1 hjl Hp12.out hv
       obtain ⟨v0, v1⟩ := hvb
       have hj2 : (j : Int) < (k : Int) % 12 := by omega
       have Hv := Lib.hid hv; clear hv
       go_wp2_with fail
       go_round
       case measure => simp [intOf]; omega
       case rel => exact ⟨j + 1, 2 * v, by omega, by go_num, rfl, by rw [Hv.out, Int.pow_succ, Int.mul_comm 2, Int.mul_assoc]⟩
     · obtain rfl : j = k % 12 := by omega
       have hj2 : (k : Int) % 12 ≤ (((k % 12 : Nat) : Int)) := by omega
       have h2 := M2.out.cell (k / 12) (by omega)
       have hfz := M2.out.frozen (k / 12)
       have hy := room12 h n k (by omega) Hd.out Hs.out
       have hy0 := (Hd.out (k / 12) (by omega)).1
       obtain ⟨y, hyy⟩ : ∃ y, y = h (k / 12) := ⟨_, rfl⟩
       rw [← hyy] at h2 hy hy0
       have hvle : v ≤ 2 ^ (k % 12) := by
        have hpp : (0 : Int) < 2 ^ (k % 12) := Int.pow_pos (by decide)
        rcases (show b = 0 ∨ b = 1 by omega) with e | e
        · rw [hv, e]; omega
        · rw [hv, e]; omega
       have hv0 : 0 ≤ v := by
        have hpp : (0 : Int) < 2 ^ (k % 12) := Int.pow_pos (by decide)
        rcases (show b = 0 ∨ b = 1 by omega) with e | e
        · rw [hv, e]; omega
        · rw [hv, e]; omega
       have hyv : y + v < 4096 := by have := Hp12.out; omega
       clear hy hvle
       have k4 : (0 : Int) ≤ (k : Int) / 12 := by omega
       have k5 : (k : Int) / 12 < 44 := by omega
       have Hv := Lib.hid hv; clear hv
       have Hyy := Lib.hid hyy; clear hyy
       go_wp2_with fail
       go_roundw
       case measure => simp [intOf]; omega
       case rel =>
        refine ⟨k + 1, upd h (k / 12) (y + v), by omega, by go_num, ?_, ?_, M0.out.other _ _ (by simp <;> omega), M1.out.other _ _ (by simp <;> omega), M2.out.set _ _, hB.setCell (by simp <;> omega) _⟩
        · intro j hj
          by_cases e : j = k / 12
          · subst e; rw [qw]; omega
          · rw [qD _ _ _ _ e]; exact Hd.out j hj
        · rw [Qs _ _ _ _ _ (by omega), Hs.out, ZZ, ← Hyy.out, Hv.out, Hbn.out]
          have e := pow12 k
          have e2 : ((n % 2 ^ k + n / 2 ^ k % 2 * 2 ^ k : Nat) : Int) = ((n % 2 ^ k : Nat) : Int) + ((n / 2 ^ k % 2 : Nat) : Int) * 2 ^ k := by
           rw [Int.natCast_add, Int.natCast_mul, Int.natCast_pow]; rfl
          rw [e2, ← e]
          generalize ((n / 2 ^ k % 2 : Nat) : Int) = B
          generalize (2 : Int) ^ (k % 12) = U
          generalize (4096 : Int) ^ (k / 12) = V
          grind
  · obtain rfl : k = 255 := by omega
    have HC := Lib.hid (HI.out h Hd.out (by rw [Hs.out, ← Hm.out]))
    go_wp2_with (first | (refine wpList_load_row rfl 101 _ rfl (w.heap.size + 1 + 1) rfl 101 (row .i64 44 h) (0, 0) _ M2.out Try.underlying101 rfl (by rw [QG]; kernel_rfl) ?_))
    refine (Hle.out h HC.out _).mono ?_
    rintro e w1 ⟨rfl, hb1⟩
    obtain ⟨Z, hZ, mz⟩ := M1.out.below hb1 M1.out.lt
    have HBB := Lib.hid (below_setRow (hB.trans (hb1.mono hB.size)) (w.heap.size + 1) (r22 r) (by omega))
    clear hb1
    have Mz := Lib.hid mz; clear mz
    have HZ := Lib.hid hZ; clear hZ
    go_wp2_with (refine wpList_store_row rfl 40 _ _ rfl (w.heap.size + 1) _ rfl rfl 40 Z Mz.out (by rw [qe]; kernel_rfl) (HZ.out.trans (qe _).symm) (qp _ _ _) ?_)
    exact bodyPost_ret (v := .agg (r22 r)) (results_cell_row (t := 40) (by rfl) _ _ (w.heap.size + 1) _ _ _ rfl (Mz.out.setRow _) Try.underlying40 rfl (by rw [qe]; kernel_rfl)) rfl ⟨rfl, HBB.out⟩
end
section
open Go.RowKit Go.Lib
theorem pow8 (k : Nat) : (2 : Int) ^ (k % 8) * 256 ^ (k / 8) = 2 ^ k := by
 rw [show (256 : Int) = 2 ^ 8 from rfl, ← Int.pow_mul, ← Int.pow_add, Nat.mod_add_div]
theorem pow8_le (k : Nat) : (2 : Int) ^ (k % 8) ≤ 128 ∧ (0 : Int) < 2 ^ (k % 8) := by
 refine ⟨?_, Int.pow_pos (by decide)⟩
 have hr : k % 8 < 8 := Nat.mod_lt _ (by decide)
 generalize k % 8 = r at *
 rcases (show r = 0 ∨ r = 1 ∨ r = 2 ∨ r = 3 ∨ r = 4 ∨ r = 5 ∨ r = 6 ∨ r = 7 by omega) with rfl | rfl | rfl | rfl | rfl | rfl | rfl | rfl <;> decide
theorem room8 (h : Nat → Int) (n k : Nat) (hk : k < 256) (hd : ∀ j, j < 32 → 0 ≤ h j ∧ h j < 256) (hs : qr 256 h 32 = ((n % 2 ^ k : Nat) : Int)) : h (k / 8) < 2 ^ (k % 8) := by
 have h1 := fig_le 256 (by decide) h 32 (k / 8) (by omega) (fun j hj => (hd j hj).1)
 rw [hs] at h1
 have h2 : ((n % 2 ^ k : Nat) : Int) < 2 ^ k := by
  have : n % 2 ^ k < 2 ^ k := Nat.mod_lt _ (Nat.pow_pos (by decide))
  have e : ((2 ^ k : Nat) : Int) = (2 : Int) ^ k := by rw [Int.natCast_pow]; rfl
  omega
 rw [← pow8 k] at h2
 exact Int.lt_of_mul_lt_mul_right (Int.lt_of_le_of_lt h1 h2) (Int.le_of_lt (Int.pow_pos (by decide)))
theorem qbG (x : Int) (k : Nat) (h0 : 0 ≤ x) (h1 : x ≤ 4095) : 0 ≤ x / 2 ^ k ∧ x / 2 ^ k ≤ 4095 := by
 have hp : (0 : Int) < 2 ^ k := Int.pow_pos (by decide)
 refine ⟨Int.ediv_nonneg h0 (Int.le_of_lt hp), ?_⟩
 have := Int.ediv_le_self (2 ^ k) h0
 omega
theorem bitr (n k : Nat) (x : Int) (hx : x = dg 4096 n (k / 12)) : x / 2 ^ (k % 12) % 2 = ((n / 2 ^ k % 2 : Nat) : Int) := by
 rw [hx, dg, ← bit12 n k]
 norm_cast
theorem key_end (n : Nat) (hn : n < 2 ^ 256) (h : Nat → Int) (hd : ∀ j, j < 32 → 0 ≤ h j ∧ h j < 256) (hs : qr 256 h 32 = ((n % 2 ^ 256 : Nat) : Int)) : row .u8 32 h = k32 n := by
 rw [Nat.mod_eq_of_lt hn] at hs
 exact Qb _ _ _ _ (zo 256 h n 32 hd hs)
theorem rkey_any (n : Nat) (hn : n < 2 ^ 256) (w : World) :
 Calls Try.prog 74 #[.agg (r22 n)] w fun e w' => e = .returned (.agg (k32 n)) ∧ Below w.heap.size w w' := by
 have HE := Lib.hid (key_end n hn); clear hn
 go_enter Try.func74, Try.ntmps74
 go_wp2_with fail
 go_loopw [4] (fun i wr => ∃ (k : Nat) (h : Nat → Int), k ≤ 256 ∧ i = .int .i64 k ∧ (∀ j, j < 32 → 0 ≤ h j ∧ h j < 256) ∧ qr 256 h 32 = ((n % 2 ^ k : Nat) : Int) ∧ Has wr w.heap.size (r22 n) 40 ∧ HasN wr (w.heap.size + 1) 32 24 ∧ Has wr (w.heap.size + 1 + 1) (row .u8 32 h) 24 ∧ Below w.heap.size w wr) (fun i _ => 256 - (intOf i).toNat)
 case atStart => exact ⟨0, fun _ => 0, by omega, rfl, fun j hj => by simp, by rw [Q6 _ _ _ (fun _ _ => rfl)]; simp [Nat.mod_one], ((Has.new _ _ _).alloc _).alloc _, (HasN.new1 _ _ _ _ 32 rfl).alloc _, Has.new2 _ _ _ _ _, QD _ _ _ _⟩
 case round =>
  obtain ⟨k, h, hk, rfl, hd, hs, m0, m1, m2, hB⟩ := hrel
  have M0 := Lib.hid m0; clear m0
  have M1 := Lib.hid m1; clear m1
  have M2 := Lib.hid m2; clear m2
  have Hd := Lib.hid hd; clear hd
  have Hs := Lib.hid hs; clear hs
  by_cases hlt : k < 256
  · have h1 := M0.out.cell (k / 12) (by omega)
    have x0 := qah n (k / 12)
    have x1 := qaA n (k / 12)
    obtain ⟨x, hx⟩ : ∃ x, x = dg 4096 n (k / 12) := ⟨_, rfl⟩
    rw [← hx] at h1 x0 x1
    have hbit := bitr n k x hx
    have k0 : (0 : Int) ≤ (k : Int) % 12 := by omega
    have k1 : (k : Int) % 12 < 12 := by omega
    have k2 : (0 : Int) ≤ (k : Int) / 12 := by omega
    have k3 : (k : Int) / 12 < 22 := by omega
    have k4 : (0 : Int) ≤ (k : Int) % 8 := by omega
    have k5 : (k : Int) % 8 < 8 := by omega
    have k6 : (0 : Int) ≤ (k : Int) / 8 := by omega
    have k7 : (k : Int) / 8 < 32 := by omega
    obtain ⟨s0, s1⟩ := qbG x (k % 12) x0 x1
    have h2 := M2.out.cell (k / 8) (by omega)
    have hfz := M2.out.frozen (k / 8)
    have hy := room8 h n k hlt Hd.out Hs.out
    have hy0 := (Hd.out (k / 8) (by omega)).1
    obtain ⟨y, hyy⟩ : ∃ y, y = h (k / 8) := ⟨_, rfl⟩
    rw [← hyy] at h2 hy hy0
    have hp8 := (pow8_le k).1
    have hp80 := (pow8_le k).2
    have Hx := Lib.hid hx; clear hx
    have Hbit := Lib.hid hbit; clear hbit
    have Hyy := Lib.hid hyy; clear hyy
    by_cases hb1 : x / 2 ^ (k % 12) % 2 = 1
    · have ht : (x / 2 ^ (k % 12) % 2 == 1) = true := by simp [hb1]
      have Hb1 := Lib.hid hb1; clear hb1
      go_wp2_with fail
      go_roundw
      case measure => simp [intOf]; omega
      case rel =>
       refine ⟨k + 1, upd h (k / 8) (y + 2 ^ (k % 8)), by omega, by go_num, ?_, ?_, M0.out.other _ _ (by simp <;> omega), M1.out.other _ _ (by simp <;> omega), M2.out.set _ _, hB.setCell (by simp <;> omega) _⟩
       · intro j hj
         by_cases e : j = k / 8
         · subst e; rw [qw]; omega
         · rw [qD _ _ _ _ e]; exact Hd.out j hj
       · have hb2 : ((n / 2 ^ k % 2 : Nat) : Int) = 1 := Hbit.out.symm.trans Hb1.out
         rw [Qs _ _ _ _ _ (by omega), Hs.out, ZZ, ← Hyy.out]
         have e := pow8 k
         have e2 : ((n % 2 ^ k + n / 2 ^ k % 2 * 2 ^ k : Nat) : Int) = ((n % 2 ^ k : Nat) : Int) + ((n / 2 ^ k % 2 : Nat) : Int) * 2 ^ k := by
          rw [Int.natCast_add, Int.natCast_mul, Int.natCast_pow]; rfl
         rw [e2, hb2, ← e]
         generalize (2 : Int) ^ (k % 8) = U
         generalize (256 : Int) ^ (k / 8) = V
         grind
    · have ht : (x / 2 ^ (k % 12) % 2 == 1) = false := by simp [hb1]
      have hb0 : x / 2 ^ (k % 12) % 2 = 0 := by omega
      clear hb1
      have Hb0 := Lib.hid hb0; clear hb0
      go_wp2_with fail
      go_roundw
      case measure => simp [intOf]; omega
      case rel =>
       refine ⟨k + 1, h, by omega, by go_num, Hd.out, ?_, M0.out, M1.out, M2.out, hB⟩
       have hb2 : n / 2 ^ k % 2 = 0 := by have := Hbit.out.symm.trans Hb0.out; omega
       rw [Hs.out, ZZ, hb2, Nat.zero_mul, Nat.add_zero]
  · obtain rfl : k = 256 := by omega
    have m2 := M2.out
    rw [HE.out h Hd.out Hs.out] at m2
    obtain ⟨Z, hZ, mz⟩ := M1.out
    have M2 := Lib.hid m2; clear m2
    have Mz := Lib.hid mz; clear mz
    have HZ := Lib.hid hZ; clear hZ
    go_wp2_with (first | (refine wpList_load_row rfl 24 _ rfl (w.heap.size + 1 + 1) rfl 24 (k32 n) (0, 0) _ M2.out Try.underlying24 rfl (by rw [qf]; kernel_rfl) ?_) | (refine wpList_store_row rfl 24 _ _ rfl (w.heap.size + 1) _ rfl rfl 24 Z Mz.out (by rw [qf]; kernel_rfl) (HZ.out.trans (qf _).symm) (qp _ _ _) ?_))
    exact bodyPost_ret (v := .agg (k32 n)) (results_cell_row (t := 24) (by rfl) _ _ (w.heap.size + 1) _ _ _ rfl (Mz.out.setRow _) Try.underlying24 rfl (by rw [qf]; kernel_rfl)) rfl ⟨rfl, below_setRow hB _ _ (by omega)⟩
theorem div_succ (n k : Nat) : n / 4096 ^ (k + 1) = n / 4096 ^ k / 4096 := by rw [Nat.pow_succ, Nat.div_div_eq_div_mul]
theorem int_inv (n : Nat) (hn : n < 9223372036854775808) (h : Nat → Int) (hl : ∀ j, j < 6 → h j = dg 4096 n j) (hh : ∀ j, 6 ≤ j → h j = 0) : qdw n 0 h := by
 have hz : ∀ j, 6 ≤ j → dg 4096 n j = 0 := by
  intro j hj
  unfold dg
  have : n < 4096 ^ j := Nat.lt_of_lt_of_le (Nat.lt_of_lt_of_le hn (by decide)) (Nat.pow_le_pow_right (by decide) hj)
  rw [Nat.div_eq_of_lt this]; rfl
 have he : ∀ j, h j = dg 4096 n j := fun j => by
  by_cases hj : j < 6
  · exact hl j hj
  · rw [hh j (by omega), hz j (by omega)]
 refine qaQ _ h (fun i _ => ?_) ?_ ?_
 · rw [he i]; have a := qah n i; have b := qaA n i; omega
 · rw [zi 4096 h (dg 4096 n) 44 (fun i _ => he i)]
   have := Q7 4096 n 44
   rw [Nat.mod_eq_of_lt (Nat.lt_of_lt_of_le hn (by decide +kernel))] at this
   exact this
 · rw [bnd0]; omega
theorem ZS (n : Nat) (hn : n < 9223372036854775808) (w : World) :
 Calls Try.prog 35 #[.int .i64 n] w fun e w' => e = .returned (.agg (r22 (n % PP))) ∧ Below w.heap.size w w' := by
 have HI := Lib.hid (int_inv n hn)
 have hq0 : n / 4096 ^ 0 < 9223372036854775808 := by simpa using hn
 have hend : n / 4096 ^ 6 = 0 := Nat.div_eq_of_lt (Nat.lt_of_lt_of_le hn (by decide))
 obtain ⟨r, hr⟩ : ∃ r, r = n % PP := ⟨_, rfl⟩
 have hle := fun h hi w => qaO n h hi w
 rw [← hr] at hle ⊢
 have hdl : ∀ k, n / 4096 ^ k ≤ n := fun k => Nat.div_le_self _ _
 have Hle := Lib.hid hle; clear hle
 have Hend := Lib.hid hend; clear hend
 have Hq0 := Lib.hid hq0; clear hq0
 have Hdl := Lib.hid hdl; clear hdl
 clear hr
 go_enter Try.func35, Try.ntmps35
 go_wp2_with fail
 go_loopw [0, 4] (fun q i wr => ∃ (k : Nat) (h : Nat → Int), k ≤ 6 ∧ i = .int .i64 k ∧ q = .int .i64 ((n / 4096 ^ k : Nat) : Int) ∧ (∀ j, j < k → h j = dg 4096 n j) ∧ (∀ j, k ≤ j → h j = 0) ∧ HasN wr w.heap.size 22 40 ∧ Has wr (w.heap.size + 1) (row .i64 44 h) 101 ∧ Below w.heap.size w wr) (fun _ i _ => 6 - (intOf i).toNat)
 case atStart => exact ⟨0, fun _ => 0, by omega, rfl, by simp, fun j hj => by omega, fun _ _ => rfl, (HasN.new _ _ _ 22 rfl).alloc _, Has.new1 _ _ _ _, Qx _ _ _⟩
 case round =>
  obtain ⟨k, h, hk, rfl, rfl, hl, hh, m0, m1, hB⟩ := hrel
  have M0 := Lib.hid m0; clear m0
  have M1 := Lib.hid m1; clear m1
  have Hl := Lib.hid hl; clear hl
  have Hh := Lib.hid hh; clear hh
  by_cases hlt : k < 6
  · have h2 := M1.out.cell k (by omega)
    have hfz := M1.out.frozen k
    have hq1 := Hdl.out k
    have hfig : ((n / 4096 ^ k : Nat) : Int) % 4096 = dg 4096 n k := by unfold dg; omega
    have hnx : ((n / 4096 ^ k : Nat) : Int) / 4096 = ((n / 4096 ^ (k + 1) : Nat) : Int) := by rw [div_succ]; omega
    obtain ⟨q, hq⟩ : ∃ q, q = n / 4096 ^ k := ⟨_, rfl⟩
    rw [← hq] at hq1 hfig hnx
    rw [← hq]
    have Hq := Lib.hid hq; clear hq
    have Hfig := Lib.hid hfig; clear hfig
    have Hnx := Lib.hid hnx; clear hnx
    go_wp2_with fail
    go_roundw
    case measure => simp [intOf]; omega
    case rel =>
     refine ⟨k + 1, upd h k ((q : Int) % 4096), by omega, by go_num, by rw [← Hnx.out], ?_, ?_, M0.out.other _ _ (by simp <;> omega), M1.out.set _ _, hB.setCell (by simp <;> omega) _⟩
     · intro j hj
       by_cases e : j = k
       · subst e; rw [qw, Hfig.out]
       · rw [qD _ _ _ _ e]; exact Hl.out j (by omega)
     · intro j hj; rw [qD _ _ _ _ (by omega)]; exact Hh.out j (by omega)
  · obtain rfl : k = 6 := by omega
    have HC := Lib.hid (HI.out h Hl.out Hh.out)
    go_wp2_with (first | (refine wpList_load_row rfl 101 _ rfl (w.heap.size + 1) rfl 101 (row .i64 44 h) (0, 0) _ M1.out Try.underlying101 rfl (by rw [QG]; kernel_rfl) ?_))
    refine (Hle.out h HC.out _).mono ?_
    rintro e w1 ⟨rfl, hb1⟩
    obtain ⟨Z, hZ, mz⟩ := M0.out.below hb1 M0.out.lt
    have HBB := Lib.hid (below_setRow (hB.trans (hb1.mono hB.size)) w.heap.size (r22 r) (by omega))
    clear hb1
    have Mz := Lib.hid mz; clear mz
    have HZ := Lib.hid hZ; clear hZ
    go_wp2_with (refine wpList_store_row rfl 40 _ _ rfl (w.heap.size) _ rfl rfl 40 Z Mz.out (by rw [qe]; kernel_rfl) (HZ.out.trans (qe _).symm) (qp _ _ _) ?_)
    exact bodyPost_ret (v := .agg (r22 r)) (results_cell_row (t := 40) (by rfl) _ _ (w.heap.size) _ _ _ rfl (Mz.out.setRow _) Try.underlying40 rfl (by rw [qe]; kernel_rfl)) rfl ⟨rfl, HBB.out⟩
end
section
open Go.RowKit Go.Lib
theorem QB : PP = 57896044618658097711785492504343953926634992332820282019728792003956564819949 := rfl
theorem int_num (n : Int) (m : Nat) (h : n = -(m : Int) - 1) : ((0 + (PP - m % PP)) % PP + (PP - 1 % PP)) % PP = (n % (PP : Int)).toNat := by
 subst h
 have hp := QB
 have hpos := qH
 have hlt := Nat.mod_lt m hpos
 have hdm := Nat.div_add_mod m PP
 generalize m % PP = r at *
 generalize m / PP = q at *
 subst hdm
 have e1 : 1 % PP = 1 := by decide +kernel
 rw [e1]
 have e2 : (-((PP * q + r : Nat) : Int) - 1) = (-(r : Int) - 1) + (PP : Int) * (-(q : Int)) := by
  rw [Int.natCast_add, Int.natCast_mul, Int.mul_neg]; omega
 rw [e2, Int.add_mul_emod_self_left]
 rw [hp] at *
 omega
theorem pow_next (a e k x b : Nat) (hx : x = a ^ (e / 2 ^ (k + 1)) % PP) (hb : b = e / 2 ^ k % 2) : (if b = 1 then x * x % PP * a % PP else x * x % PP) = a ^ (e / 2 ^ k) % PP := by
 have h1 : e / 2 ^ k = 2 * (e / 2 ^ (k + 1)) + b := by
  rw [hb, Nat.pow_succ, ← Nat.div_div_eq_div_mul]; omega
 have hb2 : b < 2 := by rw [hb]; exact Nat.mod_lt _ (by decide)
 rw [h1, hx]
 generalize e / 2 ^ (k + 1) = E
 clear h1 hx hb
 have h2 : a ^ E % PP * (a ^ E % PP) % PP = a ^ (2 * E) % PP := by rw [← Nat.mul_mod, Nat.two_mul, Nat.pow_add]
 rw [h2]
 rcases (show b = 0 ∨ b = 1 by omega) with h0 | h0
 · rw [if_neg (by omega), h0]; rfl
 · rw [if_pos h0, h0, Nat.mod_mul_mod]; rfl
theorem rpower_any (a e : Nat) (ha : a < PP) (he : e < 2 ^ 255) (w : World) :
 Calls Try.prog 85 #[.agg (r22 a), .agg (r22 e)] w fun en w' => en = .returned (.agg (r22 (a ^ e % PP))) ∧ Below w.heap.size w w' := by
 have he0 : a ^ (e / 2 ^ 0) % PP = a ^ e % PP := by rw [Nat.pow_zero, Nat.div_one]
 have he1 : a ^ (e / 2 ^ 255) % PP = 1 % PP := by rw [Nat.div_eq_of_lt he, Nat.pow_zero]
 have hnx := pow_next a e
 have ht := fun x y hx hy w => qO x y hx hy w
 have hc1 := fun w => ZS 1 (by omega) w
 have He0 := Lib.hid he0; clear he0
 have He1 := Lib.hid he1; clear he1
 have Hnx := Lib.hid hnx; clear hnx
 have Ht := Lib.hid ht; clear ht
 have Hc1 := Lib.hid hc1; clear hc1
 have Ha := Lib.hid ha; clear ha
 have He := Lib.hid he; clear he
 go_enter Try.func85, Try.ntmps85
 go_wp2_with fail
 refine (Hc1.out _).mono ?_
 rintro en w1 ⟨rfl, b1⟩
 have m0 := (((Has.new w (r22 a) 40).alloc (.cells (r22 e) 40)).alloc (.cells (row .i64 22 fun _ => 0) 40)).call b1
 have m1 := ((Has.new1 w (.cells (r22 a) 40) (r22 e) 40).alloc (.cells (row .i64 22 fun _ => 0) 40)).call b1
 have m2 := (HasN.new2 w (.cells (r22 a) 40) (.cells (r22 e) 40) (row .i64 22 fun _ => 0) 40 22 (QG _ _ _)).call b1
 have hB := qh (QD w (.cells (r22 a) 40) (.cells (r22 e) 40) (.cells (row .i64 22 fun _ => 0) 40)) b1
 clear b1
 have h1r : (1 % PP) < PP := Nat.mod_lt _ qH
 obtain ⟨o, ho⟩ : ∃ o, o = 1 % PP := ⟨_, rfl⟩
 rw [← ho] at h1r ⊢
 have M0 := Lib.hid m0; clear m0
 have M1 := Lib.hid m1; clear m1
 have M2 := Lib.hid m2; clear m2
 have HB := Lib.hid hB; clear hB
 have H1r := Lib.hid h1r; clear h1r
 have Ho := Lib.hid ho; clear ho
 obtain ⟨Z, hZ, mz⟩ := HasN.new w1 (row .i64 22 fun _ => 0) 40 22 (QG _ _ _)
 have q0 := (M0.out.alloc (.cells (row .i64 22 fun _ => 0) 40)).setRow_other w1.heap.size (r22 o) (by have := M0.out.lt; omega)
 have q1 := (M1.out.alloc (.cells (row .i64 22 fun _ => 0) 40)).setRow_other w1.heap.size (r22 o) (by have := M1.out.lt; omega)
 have q2 := (M2.out.alloc (.cells (row .i64 22 fun _ => 0) 40)).setRow_other w1.heap.size (r22 o) (by have := M2.out.lt; omega)
 have q3 := mz.setRow (r22 o)
 have hB2 := below_setRow (HB.out.alloc HB.out.size (.cells (row .i64 22 fun _ => 0) 40)) w1.heap.size (r22 o) HB.out.size
 have hlt3 := M2.out.lt
 have Mz := Lib.hid mz; clear mz
 have HZ := Lib.hid hZ; clear hZ
 have Q0 := Lib.hid q0; clear q0
 have Q1 := Lib.hid q1; clear q1
 have Q2 := Lib.hid q2; clear q2
 have Q3 := Lib.hid q3; clear q3
 have HB2 := Lib.hid hB2; clear hB2
 clear M0 M1 M2 HB
 go_wp2_with (refine wpList_store_row rfl 40 _ _ rfl (w1.heap.size) _ rfl rfl 40 Z Mz.out (by rw [qe]; kernel_rfl) (HZ.out.trans (qe _).symm) (qp _ _ _) ?_)
 clear Mz HZ
 go_loopw [6] (fun i wr => ∃ (k x : Nat), k ≤ 255 ∧ i = .int .i64 ((k : Int) - 1) ∧ x < PP ∧ x = a ^ (e / 2 ^ k) % PP ∧ Has wr w.heap.size (r22 a) 40 ∧ Has wr (w.heap.size + 1) (r22 e) 40 ∧ HasN wr (w.heap.size + 1 + 1) 22 40 ∧ Has wr w1.heap.size (r22 x) 40 ∧ Below w.heap.size w wr) (fun i _ => (intOf i + 1).toNat)
 case atStart => exact ⟨255, o, by omega, rfl, H1r.out, by rw [He1.out, Ho.out], Q0.out, Q1.out, Q2.out, Q3.out, HB2.out⟩
 case round =>
  clear Q0 Q1 Q2 Q3 HB2
  obtain ⟨k, x, hk, rfl, hxp, hx, m0, m1, m2, m3, hB⟩ := hrel
  have M0 := Lib.hid m0; clear m0
  have M1 := Lib.hid m1; clear m1
  have M2 := Lib.hid m2; clear m2
  have M3 := Lib.hid m3; clear m3
  have HB := Lib.hid hB; clear hB
  have Hxp := Lib.hid hxp; clear hxp
  have Hx := Lib.hid hx; clear hx
  by_cases hlt : 0 < k
  · obtain ⟨k, rfl⟩ : ∃ j, k = j + 1 := ⟨k - 1, by omega⟩
    rw [show (((k + 1 : Nat) : Int) - 1) = (k : Int) by omega]
    go_wp2_with (refine wpList_load_row rfl 40 _ rfl (w1.heap.size) rfl 40 (r22 x) (0, 0) _ M3.out Try.underlying40 rfl (by rw [qe]; kernel_rfl) ?_)
    have hy0 : x * x % PP < PP := Nat.mod_lt _ qH
    obtain ⟨y, hy⟩ : ∃ y, y = x * x % PP := ⟨_, rfl⟩
    have hc := fun w => Ht.out x x Hxp.out Hxp.out w
    rw [← hy] at hc hy0
    have Hc := Lib.hid hc; clear hc
    have Hy := Lib.hid hy; clear hy
    have Hy0 := Lib.hid hy0; clear hy0
    refine (Hc.out _).mono ?_
    rintro en w2 ⟨rfl, b2⟩
    have m0 := M0.out.call b2
    have m1 := M1.out.call b2
    have m2 := M2.out.call b2
    obtain ⟨Z, hZ, mz⟩ := (M3.out.toN (qe _)).call b2
    have hB2 := qh HB.out b2
    have q0 := m0.setRow_other w1.heap.size (r22 y) (by omega)
    have q1 := m1.setRow_other w1.heap.size (r22 y) (by omega)
    have q2 := m2.setRow_other w1.heap.size (r22 y) (by omega)
    have q3 := mz.setRow (r22 y)
    have hB3 := below_setRow hB2 w1.heap.size (r22 y) (by omega)
    clear m0 m1 m2 b2 hB2
    clear M0 M1 M2 M3 HB Hc
    have h1 := q1.cell (k / 12) (by omega)
    have x0 := qah e (k / 12)
    have x1 := qaA e (k / 12)
    obtain ⟨z, hz⟩ : ∃ z, z = dg 4096 e (k / 12) := ⟨_, rfl⟩
    rw [← hz] at h1 x0 x1
    have hbit := bitr e k z hz
    have k0 : (0 : Int) ≤ (k : Int) % 12 := by omega
    have k1 : (k : Int) % 12 < 12 := by omega
    have k2 : (0 : Int) ≤ (k : Int) / 12 := by omega
    have k3 : (k : Int) / 12 < 22 := by omega
    obtain ⟨s0, s1⟩ := qbG z (k % 12) x0 x1
    have Mz := Lib.hid mz; clear mz
    have HZ := Lib.hid hZ; clear hZ
    have Q0 := Lib.hid q0; clear q0
    have Q1 := Lib.hid q1; clear q1
    have Q2 := Lib.hid q2; clear q2
    have Q3 := Lib.hid q3; clear q3
    have HB3 := Lib.hid hB3; clear hB3
    have Hz := Lib.hid hz; clear hz
    have Hbit := Lib.hid hbit; clear hbit
    by_cases hb1 : z / 2 ^ (k % 12) % 2 = 1
    · have ht : (z / 2 ^ (k % 12) % 2 == 1) = true := by simp [hb1]
      have hbn : 1 = e / 2 ^ k % 2 := by have := Hbit.out; omega
      have hnx := Hnx.out k x 1 Hx.out hbn
      rw [if_pos rfl, ← Hy.out] at hnx
      have hv0 : y * a % PP < PP := Nat.mod_lt _ qH
      obtain ⟨v, hv⟩ : ∃ v, v = y * a % PP := ⟨_, rfl⟩
      have hc := fun w => Ht.out y a Hy0.out Ha.out w
      rw [← hv] at hc hv0 hnx
      clear hv hbn
      have Hb1 := Lib.hid hb1; clear hb1
      have Hc := Lib.hid hc; clear hc
      have Hv0 := Lib.hid hv0; clear hv0
      have Hnx := Lib.hid hnx; clear hnx
      go_wp2_with (first | (refine wpList_store_row rfl 40 _ _ rfl (w1.heap.size) _ rfl rfl 40 Z Mz.out (by rw [qe]; kernel_rfl) (HZ.out.trans (qe _).symm) (qp _ _ _) ?_) | (refine wpList_load_row rfl 40 _ rfl (w1.heap.size) rfl 40 (r22 y) (0, 0) _ Q3.out Try.underlying40 rfl (by rw [qe]; kernel_rfl) ?_) | (refine wpList_load_row rfl 40 _ rfl (w.heap.size) rfl 40 (r22 a) (0, 0) _ Q0.out Try.underlying40 rfl (by rw [qe]; kernel_rfl) ?_))
      refine (Hc.out _).mono ?_
      rintro en w3 ⟨rfl, b3⟩
      have m0 := Q0.out.call b3
      have m1 := Q1.out.call b3
      have m2 := Q2.out.call b3
      obtain ⟨Z', hZ', mz'⟩ := (Q3.out.toN (qe _)).call b3
      have hB4 := qh HB3.out b3
      have p0 := m0.setRow_other w1.heap.size (r22 v) (by omega)
      have p1 := m1.setRow_other w1.heap.size (r22 v) (by omega)
      have p2 := m2.setRow_other w1.heap.size (r22 v) (by omega)
      have p3 := mz'.setRow (r22 v)
      have hB5 := below_setRow hB4 w1.heap.size (r22 v) (by omega)
      clear m0 m1 m2 b3 hB4
      have Mz' := Lib.hid mz'; clear mz'
      have HZ' := Lib.hid hZ'; clear hZ'
      have P0 := Lib.hid p0; clear p0
      have P1 := Lib.hid p1; clear p1
      have P2 := Lib.hid p2; clear p2
      have P3 := Lib.hid p3; clear p3
      have HB5 := Lib.hid hB5; clear hB5
      go_wp2_with (refine wpList_store_row rfl 40 _ _ rfl (w1.heap.size) _ rfl rfl 40 Z' Mz'.out (by rw [qe]; kernel_rfl) (HZ'.out.trans (qe _).symm) (qp _ _ _) ?_)
      go_roundw
      case measure => simp [intOf]
      case rel => exact ⟨k, v, by omega, rfl, Hv0.out, Hnx.out, P0.out, P1.out, P2.out, P3.out, HB5.out⟩
    · have ht : (z / 2 ^ (k % 12) % 2 == 1) = false := by simp [hb1]
      have hbn : 0 = e / 2 ^ k % 2 := by have := Hbit.out; omega
      have hnx := Hnx.out k x 0 Hx.out hbn
      rw [if_neg (by decide), ← Hy.out] at hnx
      clear hb1 hbn
      have Hnx := Lib.hid hnx; clear hnx
      go_wp2_with (refine wpList_store_row rfl 40 _ _ rfl (w1.heap.size) _ rfl rfl 40 Z Mz.out (by rw [qe]; kernel_rfl) (HZ.out.trans (qe _).symm) (qp _ _ _) ?_)
      go_roundw
      case measure => simp [intOf]
      case rel => exact ⟨k, y, by omega, rfl, Hy0.out, Hnx.out, Q0.out, Q1.out, Q2.out, Q3.out, HB3.out⟩
  · obtain rfl : k = 0 := by omega
    have hx2 : x = a ^ e % PP := Hx.out.trans He0.out
    obtain ⟨Z, hZ, mz⟩ := M2.out
    have Mz := Lib.hid mz; clear mz
    have HZ := Lib.hid hZ; clear hZ
    have Hx2 := Lib.hid hx2; clear hx2
    have HBB := Lib.hid (below_setRow HB.out (w.heap.size + 1 + 1) (r22 x) (by omega))
    go_wp2_with (first | (refine wpList_load_row rfl 40 _ rfl (w1.heap.size) rfl 40 (r22 x) (0, 0) _ M3.out Try.underlying40 rfl (by rw [qe]; kernel_rfl) ?_) | (refine wpList_store_row rfl 40 _ _ rfl (w.heap.size + 1 + 1) _ rfl rfl 40 Z Mz.out (by rw [qe]; kernel_rfl) (HZ.out.trans (qe _).symm) (qp _ _ _) ?_))
    exact bodyPost_ret (v := .agg (r22 x)) (results_cell_row (t := 40) (by rfl) _ _ (w.heap.size + 1 + 1) _ _ _ rfl (Mz.out.setRow _) Try.underlying40 rfl (by rw [qe]; kernel_rfl)) rfl ⟨by rw [Hx2.out], HBB.out⟩
def pwm (b e : Nat) : Nat := b ^ e % PP
theorem qcO (b e : Nat) : pwm b e < PP := Nat.mod_lt _ qH
theorem qcJ (a e : Nat) (ha : a < PP) (he : e < 2 ^ 255) (w : World) :
 Calls Try.prog 85 #[.agg (r22 a), .agg (r22 e)] w fun en w' => en = .returned (.agg (r22 (pwm a e))) ∧ Below w.heap.size w w' := rpower_any a e ha he w
end
section
open Go.RowKit Go.Lib
section
variable {P : Program} (w : World)
def eqr (n : Nat) (f g : Nat → Int) : Bool := (List.range n).all fun i => f i == g i
theorem zR (d : Nat) (t e : TypeId) (n : Nat) (kd : IntKind) (ht : P.underlying t = some (.array n e)) (he : P.underlying e = some (.int kd)) (hsz : ∀ w, (sizeOf e).run P w = .ok 1 w) (f g : Nat → Int) :
 (Op.equalIn (d + 2) t (.agg (row kd n f)) (.agg (row kd n g))).run P w = .ok (eqr n f g) w := by
 unfold eqr
 rw [List.range_eq_range', Op.equalIn]
 simp only [Sem.run_bind, run_underlying ht, Result.andThen_ok, hsz, Std.Legacy.Range.forIn_eq_forIn_range', Std.Legacy.Range.size, Nat.sub_zero, Nat.add_sub_cancel, Nat.div_one]
 have hl : ∀ i ∈ List.range' 0 n 1, i < n := fun i hi => by simpa using (List.mem_range'_1.1 hi).2
 generalize List.range' 0 n 1 = l at hl ⊢
 induction l with
 | nil => simp
 | cons i l ih =>
  have hi : i < n := hl i (by simp)
  have px : ∀ h : Nat → Int, (part e (row kd n h) (i * 1)).run P w = .ok (.int kd (h i)) w := fun h => by
   have hg := QJ kd n h i hi
   simp [part, isAgg, run_underlying he, hg]
  simp only [List.forIn_cons, Sem.run_bind, px, run_equalIn_int w d e kd kd _ _ he, Result.andThen_ok, List.all_cons]
  cases hb : (f i == g i)
  · simp
  · simp only [Bool.not_true, Bool.false_eq_true, if_false, Sem.run_pure, Result.andThen_ok, Bool.true_and]
    exact ih fun j hj => hl j (by simp [hj])
theorem ze (t e : TypeId) (n : Nat) (kd : IntKind) (ht : P.underlying t = some (.array n e)) (he : P.underlying e = some (.int kd)) (hsz : ∀ w, (sizeOf e).run P w = .ok 1 w) (f : Nat → Int) (k : Nat) (hk : k < n) :
 (Instr.index t (.agg (row kd n f)) (.int .i64 (k : Int))).run P w = .ok (.int kd (f k)) w := by
 have hg := QJ kd n f k hk
 simp [Instr.index, asIntOf, run_underlying ht, hk, hsz, part, isAgg, run_underlying he, hg]
end
theorem eqr_dg (B n x y : Nat) (hx : x < B ^ n) (hy : y < B ^ n) : eqr n (dg B x) (dg B y) = decide (x = y) := by
 unfold eqr
 rw [Bool.eq_iff_iff]
 simp only [List.all_eq_true, List.mem_range, beq_iff_eq, decide_eq_true_eq]
 constructor
 · intro h
   have e1 := Q7 B x n
   have e2 := Q7 B y n
   rw [Nat.mod_eq_of_lt hx] at e1
   rw [Nat.mod_eq_of_lt hy] at e2
   rw [zi (B : Int) _ _ n h] at e1
   omega
 · rintro rfl i _; rfl
theorem QV {P : Program} {fn : Func} {p t2 : Tmp} {ty : TypeId} (h : fn.results = #[.cell p ty, .tmp t2]) (tmps : Array Value) (w : World) (g : Nat) (t : TypeId) (cs : Array Value) (fr : Nat × Nat) (d : TypeDesc)
 (hp : tmps.getD p undef = .pointer (some ⟨g, 0, none⟩)) (hg : w.heap[g]? = some (.cells cs t fr))
 (hu : P.underlying ty = some d) (hd : (match d with | .struct _ | .array _ _ => true | _ => false) = true) (hi : (P.info? ty).map (·.size) = some cs.size) :
 (results fn tmps).run P w = .ok (.tuple #[.agg cs, tmps.getD t2 undef]) w := by
 have hp' : tmps[p]?.getD undef = .pointer (some ⟨g, 0, none⟩) := by simpa using hp
 simp [results, h, hp', asAddr, run_loadVar_row w g t ty cs fr d hg hu hd hi]
theorem sz_int (w : World) : (sizeOf 3).run Try.prog w = .ok 1 w := by kernel_rfl
theorem sz_u8 (w : World) : (sizeOf 5).run Try.prog w = .ok 1 w := by kernel_rfl
theorem sz_u64 (w : World) : (sizeOf 34).run Try.prog w = .ok 1 w := by kernel_rfl
end
section
open Go.RowKit Go.Lib
theorem two_lt : 2 % PP < PP := Nat.mod_lt _ qH
theorem pm2_lt : PP - 2 % PP < 2 ^ 255 := by decide +kernel
theorem pm2 : PP - 2 % PP = PP - 2 := by decide +kernel
theorem qbP (a b : Nat) (ha : a < PP) (hb : b < PP) (w : World) :
 Calls Try.prog 43 #[.agg (r22 a), .agg (r22 b)] w fun en w' => en = .returned (.agg (r22 (a * pwm b (PP - 2) % PP))) ∧ Below w.heap.size w w' := by
 have h1 := fun w => ZS 2 (by omega) w
 have h2 := fun w => Zn PP (2 % PP) (Nat.le_of_lt two_lt) qai w
 have h3 := fun w => qcJ b (PP - 2 % PP) hb pm2_lt w
 rw [pm2] at h2 h3
 obtain ⟨t, ht⟩ : ∃ t, t = 2 % PP := ⟨_, rfl⟩
 obtain ⟨e, he⟩ : ∃ e, e = PP - 2 := ⟨_, rfl⟩
 rw [← ht] at h1 h2
 rw [← he] at h2 h3 ⊢
 have hy := qcO b e
 obtain ⟨y, hyy⟩ : ∃ y, y = pwm b e := ⟨_, rfl⟩
 rw [← hyy] at h3 hy ⊢
 have h4 := fun w => qO a y ha hy w
 obtain ⟨r, hr⟩ : ∃ r, r = a * y % PP := ⟨_, rfl⟩
 rw [← hr] at h4 ⊢
 have H1 := Lib.hid h1; clear h1
 have H2 := Lib.hid h2; clear h2
 have H3 := Lib.hid h3; clear h3
 have H4 := Lib.hid h4; clear h4
 clear hr hyy hy he ht ha hb
 go_enter Try.func43, Try.ntmps43
 go_wp2_with fail
 refine wp_region_noPanic ?_
 refine zg 7 (by kernel_rfl) ?_
 intro W0 hW0
 have M0 := Lib.hid (show Has W0 w.heap.size (r22 a) 40 by rw [hW0]; exact ((Has.new _ _ _).alloc _).alloc _)
 have M1 := Lib.hid (show Has W0 (w.heap.size + 1) (r22 b) 40 by rw [hW0]; exact (Has.new1 _ _ _ _).alloc _)
 have M2 := Lib.hid (show HasN W0 (w.heap.size + 1 + 1) 22 40 by rw [hW0]; exact HasN.new2 _ _ _ _ _ 22 rfl)
 have HB := Lib.hid (show Below w.heap.size w W0 by rw [hW0]; exact QD _ _ _ _)
 clear hW0
 refine Qw (i := 0) rfl (by kernel_rfl) (by kernel_rfl) (by kernel_rfl) (by kernel_rfl) (by kernel_rfl) (fun _ _ _ h => h) (qj (by rfl) 40 _ rfl (w.heap.size) rfl 40 (r22 a) (fun _ h => M0.out.below h M0.out.lt) Try.underlying40 rfl (by rw [qe]; kernel_rfl)) ((Below.refl _ _).drew) ?_
 (try simp only [Act.put]); (try simp only [List.setIfInBounds_toArray])
 refine Qw (i := 1) rfl (by kernel_rfl) (by kernel_rfl) (by kernel_rfl) (by kernel_rfl) (by kernel_rfl) (fun _ _ _ h => h) (qj (by rfl) 40 _ rfl (w.heap.size + 1) rfl 40 (r22 b) (fun _ h => M1.out.below h M1.out.lt) Try.underlying40 rfl (by rw [qe]; kernel_rfl)) ((Below.refl _ _).drew) ?_
 (try simp only [Act.put]); (try simp only [List.setIfInBounds_toArray])
 refine qY (i := 2) (by kernel_rfl) rfl (fun K hK => ?_)
 go_simp
 go_at_call 82
 refine (Q8 _).mono ?_
 rintro e wW01 ⟨rfl, hb⟩
 have hkW01 := qh (Below.refl _ _).drew hb
 refine hK.out _ _ (fun _ => hkW01) ?_
 clear hK K hb
 refine qY (i := 3) (by kernel_rfl) rfl (fun K hK => ?_)
 go_simp
 go_at_call 35
 refine (H1.out _).mono ?_
 rintro e wW02 ⟨rfl, hb⟩
 have hkW02 := qh hkW01 hb
 refine hK.out _ _ (fun _ => hkW02) ?_
 clear hK K hb
 refine qY (i := 4) (by kernel_rfl) rfl (fun K hK => ?_)
 go_simp
 go_at_call 81
 refine (H2.out _).mono ?_
 rintro e wW03 ⟨rfl, hb⟩
 have hkW03 := qh hkW02 hb
 refine hK.out _ _ (fun _ => hkW03) ?_
 clear hK K hb
 refine qY (i := 5) (by kernel_rfl) rfl (fun K hK => ?_)
 go_simp
 go_at_call 85
 refine (H3.out _).mono ?_
 rintro e wW04 ⟨rfl, hb⟩
 have hkW04 := qh hkW03 hb
 refine hK.out _ _ (fun _ => hkW04) ?_
 clear hK K hb
 refine qY (i := 6) (by kernel_rfl) rfl (fun K hK => ?_)
 go_simp
 go_at_call 32
 refine (H4.out _).mono ?_
 rintro e wW05 ⟨rfl, hb⟩
 have hkW05 := qh hkW04 hb
 refine hK.out _ _ (fun _ => hkW05) ?_
 clear hK K hb
 obtain ⟨Z, hZ, mZ⟩ := M2.out.below hkW05 M2.out.lt
 have MZ := Lib.hid mZ; clear mZ
 have HZ := Lib.hid hZ; clear hZ
 refine qY (i := 7) (by kernel_rfl) rfl (fun K hK => ?_)
 rw [if_pos (by rfl)]
 refine wp_store_row 40 _ _ rfl (w.heap.size + 1 + 1) _ rfl rfl 40 Z MZ.out (by rw [qe]; kernel_rfl) (HZ.out.trans (qe _).symm) (qp _ _ _) ?_
 refine hK.out _ _ (fun h => (h rfl).elim) ?_
 clear hK K
 (try simp only [Act.put]); (try simp only [List.setIfInBounds_toArray])
 refine qu (by kernel_rfl) (NoPanic.normal ?_)
 go_wp2_with fail
 exact bodyPost_ret (v := .agg (r22 r)) (results_cell_row (t := 40) (by rfl) _ _ (w.heap.size + 1 + 1) _ _ _ rfl (MZ.out.setRow _) Try.underlying40 rfl (by rw [qe]; kernel_rfl)) rfl ⟨rfl, below_setRow (HB.out.trans (hkW05.mono HB.out.size)) _ _ (by omega)⟩
end
end Go.Proofs.Ytjiagjonlcadiaa
