/- For every row of bytes and every number the law AuditNone returns true, and the bytes read as they did; no condition. -/
import Derived.Shelf.SlIterI.Nil
import Derived.Shelf.SortM.Plain
import Derived.Shelf.SortM.SortNone
import Derived.Ground.GgzProg
import Derived.Ground.SlgmProg
import Derived.Test.YtbgefoamhdgnaaaGreatDoorProg
import Derived.Test.YtbgefoamhdgnaaaGreatDoorRows
import Derived.WalkKit
import Derived.ProofKit
import Derived.OpenShut
import Derived.ShutString
import Derived.ChangeOld
import Derived.Below
import Derived.Lib.UnsafeStr
import Derived.Test.YtbgefoamhdgnaaaGreatDoorGa6
set_option maxRecDepth 100000
set_option maxHeartbeats 16000000
set_option linter.unusedVariables false
set_option linter.unusedSimpArgs false
namespace Go.Sx
section
open Go Go.RowKit
variable {C : Cx} {L : List Ent}
section maps
variable {κ : Type} [DecidableEq κ] {ke : κ → Value}
def qbs (k : κ) (z : Value) (clk : Nat) : Es κ → Es κ
 | [] => [(k, z, clk)]
 | e :: l => if k = e.1 then e :: l else e :: qbs k z clk l
def stS (k : κ) (clk : Nat) : Es κ → Nat
 | [] => clk
 | e :: l => if k = e.1 then e.2.2 else stS k clk l
theorem tch_found {k : κ} {z : Value} {clk : Nat} {fs : Es κ} {p : Nat × Value} (h : Qs k fs 0 = some p) : qbs k z clk fs = fs := by
 induction fs generalizing p with
 | nil => cases h
 | cons e l ih =>
  unfold Qs at h; unfold qbs
  split at h
  · rename_i hk; rw [if_pos hk]
  · rename_i hk
    rw [if_neg hk]
    rw [zC] at h
    cases hf : Qs k l 0 with
    | none => rw [hf] at h; cases h
    | some p => rw [ih hf]
theorem tch_new {k : κ} {z : Value} {clk : Nat} {fs : Es κ} (h : Qs k fs 0 = none) : qbs k z clk fs = fs ++ [(k, z, clk)] ∧ stS k clk fs = clk := by
 induction fs with
 | nil => exact ⟨rfl, rfl⟩
 | cons e l ih =>
  unfold Qs at h; unfold qbs stS
  split at h
  · cases h
  · rename_i hk
    rw [if_neg hk, if_neg hk]
    rw [zC] at h
    cases hf : Qs k l 0 with
    | none => rw [(ih hf).1, (ih hf).2]; exact ⟨rfl, rfl⟩
    | some p => rw [hf] at h; cases h
theorem st_found {k : κ} {clk : Nat} {fs : Es κ} {i : Nat} {u : Value} (h : Qs k fs 0 = some (i, u)) : fs[i]? = some (k, u, stS k clk fs) := by
 induction fs generalizing i with
 | nil => cases h
 | cons e l ih =>
  unfold Qs at h; unfold stS
  split at h
  · rename_i hk
    injection h with h; injection h with h1 h2
    subst h1 h2
    rw [if_pos hk, hk]; rfl
  · rename_i hk
    rw [if_neg hk]
    rw [zC] at h
    cases hf : Qs k l 0 with
    | none => rw [hf] at h; cases h
    | some p =>
     rw [hf] at h
     injection h with h; injection h with h1 h2
     subst h1 h2
     simpa using ih (i := p.1) (by rw [hf])
theorem st_mem (k : κ) (clk : Nat) (fs : Es κ) : stS k clk fs = clk ∨ ∃ e ∈ fs, e.2.2 = stS k clk fs := by
 induction fs with
 | nil => exact .inl rfl
 | cons e l ih =>
  unfold stS
  split
  · exact .inr ⟨e, by simp, rfl⟩
  · exact ih.imp id fun ⟨f, h1, h2⟩ => ⟨f, by simp [h1], h2⟩
theorem find_st (k : κ) (z v : Value) (clk : Nat) (fs : Es κ) (hn : (fs.map (·.2.2)).Nodup) (hl : ∀ e ∈ fs, e.2.2 < clk) :
 ∃ i, ((qbs k z clk fs).map (zl ke)).findIdx? (fun e => (e.born : Int) == ((stS k clk fs : Nat) : Int)) = some i ∧ (((qbs k z clk fs).map (zl ke)).modify i fun e => { e with val := v }) = (ZB k v clk fs).map (zl ke) := by
 induction fs with
 | nil => exact ⟨0, by simp [qbs, stS, zl, List.findIdx?_cons], by simp [qbs, ZB, zl]⟩
 | cons e l ih =>
  simp only [List.map_cons, List.nodup_cons] at hn
  unfold qbs stS ZB
  by_cases hk : k = e.1
  · simp only [if_pos hk]
    exact ⟨0, by simp [zl, List.findIdx?_cons], by simp [zl, hk]⟩
  · simp only [if_neg hk]
    obtain ⟨i, h1, h2⟩ := ih hn.2 fun f hf => hl f (by simp [hf])
    have hne : ((e.2.2 : Nat) : Int) ≠ ((stS k clk l : Nat) : Int) := by
     have := hl e (by simp)
     rcases st_mem k clk l with h | ⟨f, hf, h⟩
     · omega
     · intro he
       exact hn.1 (List.mem_map.2 ⟨f, hf, by omega⟩)
    refine ⟨i + 1, ?_, ?_⟩
    · have hb : (((zl ke e).born : Int) == ((stS k clk l : Nat) : Int)) = false := by simpa [zl] using hne
      rw [List.map_cons, List.findIdx?_cons, hb, h1]
      rfl
    · simp only [List.map_cons, List.modify_succ_cons, h2]
theorem men (i : Nat) {t kt et : TypeId} {b clk : Nat} {fs : Es κ} {k : κ} {z : Value} {next : Value → List Ent → Prop} (hi : L[i]? = some (me b ke fs clk)) (ht : C.P.underlying t = some (.map kt et)) (hK : KeyOk C.P kt ke)
 (hz : (C.P.info? et).bind (·.zero) = some z) (go : next (.tuple #[(getS k fs).getD z, .int .i64 (stS k clk fs)]) (L.set i (me b ke (qbs k z clk fs) (clkS k fs clk)))) : zY C (Instr.mapEntry t (.map (some b)) (ke k)) L next := by
 refine ⟨fun w hs => ⟨_, w.putObj b (qaM ke (qbs k z clk fs) (clkS k fs clk)), _, ?_, hs.put hi, go⟩⟩
 have hg := hs.nth hi
 have hf := hK.find k fs w
 have hzz : (zeroValue et).run C.P w = .ok z w := by
  cases hi : C.P.info? et with
  | none => rw [hi] at hz; cases hz
  | some inf => rw [hi] at hz; simp only [Option.bind_some] at hz; simp [zeroValue, ZC hi, hz]
 simp only [Instr.mapEntry, Sem.run_bind, run_underlying ht, Result.andThen_ok, zP hg (by simp [qaM]), qaM, hK.check, hf]
 unfold clkS getS
 cases h : Qs k fs 0 with
 | none =>
  simp only [Option.map_none, Option.isSome_none, Bool.false_eq_true, if_false, (tch_new (z := z) (clk := clk) h).1, (tch_new (z := z) (clk := clk) h).2, Sem.run_bind, hzz, Result.andThen_ok]
  rw [ZD hg (by simp [qaM])]; simp [zl, goInt]
 | some p =>
  obtain ⟨j, u⟩ := p
  have hn := st_found (clk := clk) h
  have hj : j < fs.length := (List.getElem?_eq_some_iff.1 hn).1
  have e1 : (((fs.map (zl ke)).toArray[j]?).map (·.key)).getD (ke k) = ke k := by simp [hn, zl]
  have e2 : (((fs.map (zl ke)).toArray[j]?).map (fun x => (x.born : Int))).getD 0 = ((stS k clk fs : Nat) : Int) := by simp [hn, zl]
  simp only [e1, e2, Sem.run_bind, hK.stays, Result.andThen_ok, Option.map_some, Option.isSome_some, if_true, tch_found h, Option.getD_some]
  rw [ZD hg (by simp [qaM])]
  have e3 : ((fs.map (zl ke)).toArray.modify j fun e => { e with key := ke k }) = (fs.map (zl ke)).toArray := by
   apply Array.ext'
   rw [Array.toList_modify]
   apply List.ext_getElem?
   intro m
   simp only [List.getElem?_modify, List.getElem?_map]
   by_cases hm : j = m
   · subst hm; simp [hn, zl]
   · simp [hm]
  simp only [e3, Result.andThen_ok, Sem.run_pure, goInt]
theorem est (i : Nat) {t : TypeId} {b clk clk' : Nat} {fs : Es κ} {k : κ} {z v : Value} {x : Int} {next : List Ent → Prop} (hi : L[i]? = some (me b ke (qbs k z clk fs) clk')) (hx : x = ((stS k clk fs : Nat) : Int)) (hn : (fs.map (·.2.2)).Nodup) (hl : ∀ e ∈ fs, e.2.2 < clk)
 (go : next (L.set i (me b ke (ZB k v clk fs) clk'))) : SemU C (Instr.entryStore t (.map (some b)) (.int .i64 x) v) L next := by
 subst hx
 refine ⟨fun w hs => ⟨w.putObj b (qaM ke (ZB k v clk fs) clk'), _, ?_, hs.put hi, go⟩⟩
 have hg := hs.nth hi
 obtain ⟨j, h1, h2⟩ := find_st (ke := ke) k z v clk fs hn hl
 simp only [Instr.entryStore, Sem.run_bind, zP hg (by simp [qaM]), qaM, Result.andThen_ok, asInt, asIntOf, Sem.run_pure, List.findIdx?_toArray, h1]
 rw [ZD hg (by simp [qaM])]
 congr 2
 congr 1
 apply Array.ext'
 rw [Array.toList_modify]
 exact h2
end maps
end
end Go.Sx
namespace Go.Proofs.YtbgefoamhdgnaaaGreatDoor
section
open Go.RowKit Go.Sx
def ErrN (n : Nat) : Value := .iface 81 (.int .i64 n)
def qcZ (n : Nat) : Value := if n = 0 then .nilIface else ErrN n
theorem errVs (n : Nat) (h : n ≠ 0) : qcZ n = ErrN n := if_neg h
theorem assertN (n : Nat) (w : World) : (Instr.typeAssert (ErrN n) 32 81 true).run Tryz.prog w = .ok (.tuple #[.int .i64 n, .bool true]) w := by
 kernel_rfl
theorem num_any (n : Nat) (w : World) : Calls Tryz.prog 25 ([qcZ n] : List Value).toArray w fun e w' => e = .returned (.int .i64 n) ∧ Below w.heap.size w w' := by
 refine qA qe Tryz.func25 rfl Tryz.ntmps25 rfl (St.start w) ?_
 by_cases h0 : n = 0
 · subst h0
   refine ct rfl ?_
   exact rt rfl
 rw [errVs n h0]
 refine cf rfl ?_
 refine semV (fun w _ => assertN n w) ?_
 refine ct rfl ?_
 refine ct rfl ?_
 refine ct rfl ?_
 refine ct (bne_iff_ne.2 (by omega)) ?_
 exact rt rfl
theorem Zt (n m : Nat) (w : World) : Calls Tryz.prog 34 ([qcZ n, .int .i64 m] : List Value).toArray w fun e w' => e = .returned (.bool (decide (n = m))) ∧ Below w.heap.size w w' := by
 refine qA qe Tryz.func34 rfl Tryz.ntmps34 rfl (St.start w) ?_
 refine cv (num_any n) ?_
 refine rt (congrArg Value.bool ?_)
 rw [Bool.eq_iff_iff, beq_iff_eq, decide_eq_true_eq]; omega
theorem keyInt {P : Program} {kt : TypeId} (hk : P.underlying kt = some (.int .i64)) : KeyOk P kt keI := by
 have hnow : ∀ (k : Int) (fs : Es Int) (i : Nat), Instr.findNow (.int .i64) (keI k) (fs.map (zl keI)) i = some (Qs k fs i) := by
  intro k fs
  induction fs with
  | nil => intro i; rfl
  | cons e l ih =>
   intro i
   simp only [List.map_cons, Instr.findNow, zl, keI, Instr.sameNow, if_true, Qs]
   by_cases h : k = e.1
   · simp [h]
   · have hb : (k == e.1) = false := by simpa using h
     simp only [hb, if_neg h]; exact ih (i + 1)
 refine ⟨fun k b w => ?_, fun k fs w => ?_, fun k w => ?_⟩
 · show (Instr.checkKey b (9999 + 1) kt (keI k)).run P w = _
   rw [Instr.checkKey]
   simp [run_underlying hk, keI]
 · simp only [Instr.findKey, Sem.run_bind, run_underlying hk, Result.andThen_ok, hnow, Sem.run_pure]
 · simp [Instr.keyThatStays, keI, Instr.sameBits]
theorem undInt : Tryz.prog.underlying 3 = some (.int .i64) := by kernel_rfl
theorem undMp : Tryz.prog.underlying 93 = some (.map 3 39) := by kernel_rfl
theorem zSum : (Tryz.prog.info? 39).bind (·.zero) = some (.agg Z32) := by kernel_rfl
abbrev keyI : KeyOk Tryz.prog 3 keI := keyInt undInt
abbrev mrI (b : Nat) (fs : Es Int) (clk : Nat) : Ent := ⟨b, some (qaM keI fs clk), true, none⟩
theorem au_ro {S : AuS} {w : World} (h : AuP S w) : St [] w w [cr S.bA (auC S.p S.o S.lastV (.map (some S.bm))) TAu, mrI S.bm S.fs S.clk] :=
 St.from w [] _ (fun e he => by
  simp only [List.mem_cons, List.not_mem_nil, or_false] at he
  rcases he with rfl | rfl
  · exact ⟨by simpa using h.a, fun k hk => by simp at hk⟩
  · exact ⟨by simpa using h.m, fun k hk => by simp at hk⟩) (by
    refine .cons (fun y hy => ?_) (by simp)
    obtain rfl : y = mrI S.bm S.fs S.clk := by simpa using hy
    exact fun k => ⟨fun h => by simp at h, fun h => by simp at h⟩)
theorem auC_size (p : Nat) (o : Bs) (l m : Value) : (auC p o l m).size = 35 := by
 unfold auC
 have := qg p
 simp [this]
theorem qda (p : Nat) (o : Bs) (l m : Value) : (auC p o l m)[32]? = some (VS o) ∧ (auC p o l m)[33]? = some l ∧ (auC p o l m)[34]? = some m := by
 have hl : (k32 p).toList.length = 32 := by simpa using qg p
 unfold auC
 simp only [List.getElem?_toArray]
 refine ⟨?_, ?_, ?_⟩
 · rw [List.getElem?_append_right (by omega), hl]; rfl
 · rw [List.getElem?_append_right (by omega), hl]; rfl
 · rw [List.getElem?_append_right (by omega), hl]; rfl
def H0 : Hd := ⟨[], 0, 0, List.replicate 32 0, List.replicate 64 0⟩
theorem qcT (h : Hd) : (hdC h).toList.all (·.oneCell') = true := by
 unfold hdC
 simp only [List.all_cons, List.all_append, Bool.and_eq_true]
 refine ⟨rfl, rfl, rfl, ?_, ?_⟩ <;>
 · rw [List.all_eq_true]; exact one8 _
def lastT (l : Option Hd) : Value := .tuple #[.agg (hdC (l.getD H0)), .bool l.isSome]
theorem sumV_one (r : Bs) : (Lib.byteCells r).toArray.toList.all (·.oneCell') = true := by
 rw [List.all_eq_true]; exact one8 r
end
section
open Go.RowKit Go.Sx
def AuS.put (S : AuS) (h : Hd) (b : Nat) : AuS := { S with last := some h, bh := b, fs := ZB h.size (Zi h.root) S.clk S.fs, clk := clkS h.size S.fs S.clk }
theorem modify_same {α β : Type} (g : α → β) (f : α → α) (h : ∀ x, g (f x) = g x) (l : List α) (i : Nat) : (l.modify i f).map g = l.map g := by
 induction l generalizing i with
 | nil => simp
 | cons x l ih => cases i <;> simp [h, ih]
theorem modify_mem {α : Type} (f : α → α) (l : List α) (i : Nat) {y : α} (h : y ∈ l.modify i f) : ∃ x ∈ l, y = x ∨ y = f x := by
 obtain ⟨j, hj⟩ := List.mem_iff_getElem?.1 h
 rw [List.getElem?_modify] at hj
 split at hj
 · cases hl : l[j]? with
   | none => rw [hl] at hj; cases hj
   | some x => rw [hl] at hj; injection hj with hj; exact ⟨x, List.mem_of_getElem? hl, .inr hj.symm⟩
 · cases hl : l[j]? with
   | none => rw [hl] at hj; cases hj
   | some x => rw [hl] at hj; injection hj with hj; exact ⟨x, List.mem_of_getElem? hl, .inl hj.symm⟩
theorem set_es (k : Int) (v : Value) (clk : Nat) (fs : Es Int) (hn : (fs.map (·.2.2)).Nodup) (hl : ∀ e ∈ fs, e.2.2 < clk) :
 ((ZB k v clk fs).map (·.2.2)).Nodup ∧ ∀ e ∈ ZB k v clk fs, e.2.2 < clkS k fs clk ∧ (e ∈ fs ∨ e.2.1 = v) := by
 unfold clkS getS
 cases h : Qs k fs 0 with
 | none =>
  rw [set_new h]
  refine ⟨?_, fun e he => ?_⟩
  · rw [List.map_append, List.nodup_append]
    refine ⟨hn, by simp, fun a ha b hb e => ?_⟩
    obtain ⟨x, hx, rfl⟩ := List.mem_map.1 ha
    have := hl x hx
    simp at hb
    omega
  · simp only [Option.map_none, Option.isSome_none, Bool.false_eq_true, if_false]
    rcases List.mem_append.1 he with he | he
    · exact ⟨Nat.lt_succ_of_lt (hl e he), .inl he⟩
    · obtain rfl : e = (k, v, clk) := by simpa using he
      exact ⟨Nat.lt_succ_self _, .inr rfl⟩
 | some p =>
  obtain ⟨i, u⟩ := p
  rw [set_found h]
  refine ⟨?_, fun e he => ?_⟩
  · rw [modify_same (fun e : Int × Value × Nat => e.2.2) (fun e => (k, v, e.2.2)) (fun x => rfl)]; exact hn
  · simp only [Option.map_some, Option.isSome_some, if_true]
    obtain ⟨x, hx, h1 | h1⟩ := modify_mem _ _ _ he
    · subst h1; exact ⟨hl _ hx, .inl hx⟩
    · subst h1; exact ⟨hl x hx, .inr rfl⟩
theorem setS_keys (k : Int) (v : Value) (clk : Nat) (fs : Es Int) : (ZB k v clk fs).map (·.1) = if k ∈ fs.map (·.1) then fs.map (·.1) else fs.map (·.1) ++ [k] := by
 induction fs with
 | nil => rfl
 | cons e l ih =>
  unfold ZB
  by_cases hk : k = e.1
  · rw [if_pos hk]; simp [hk]
  · rw [if_neg hk, List.map_cons, ih]
    by_cases hm : k ∈ l.map (·.1)
    · rw [if_pos hm, if_pos (by rw [List.map_cons]; exact List.mem_cons_of_mem _ hm), List.map_cons]
    · rw [if_neg hm, if_neg (by rw [List.map_cons, List.mem_cons]; exact fun h => h.elim hk hm), List.map_cons, List.cons_append]
theorem last_top {l : List Int} {m : Int} (hp : l.Pairwise (· < ·)) (hl : l.getLast? = some m) : ∀ k ∈ l, k ≤ m := by
 obtain ⟨i, rfl⟩ := List.getLast?_eq_some_iff.1 hl
 intro k hk
 rcases List.mem_append.1 hk with h | h
 · exact Int.le_of_lt ((List.pairwise_append.1 hp).2.2 k h m (by simp))
 · simp at h; omega
theorem put_keys {S : AuS} {u : World} {x : Hd} (h : AuP S u) (hz : 0 ≤ x.size ∧ x.size ≤ 1048576) (hge : ∀ l, S.last = some l → l.size ≤ x.size) (v : Value) :
 (∀ k ∈ (ZB x.size v S.clk S.fs).map (·.1), 0 ≤ k ∧ k ≤ 1048576) ∧ ((ZB x.size v S.clk S.fs).map (·.1)).Pairwise (· < ·) ∧ ((ZB x.size v S.clk S.fs).map (·.1)).getLast? = some x.size := by
 rw [setS_keys]
 cases hl : S.last with
 | none => rw [h.k0 hl]; simp; omega
 | some l =>
  have ht := last_top h.ks (h.kl l hl)
  have hg := hge l hl
  by_cases hm : x.size ∈ S.fs.map (·.1)
  · rw [if_pos hm]
    have := ht _ hm
    exact ⟨h.kb, h.ks, by rw [h.kl l hl]; congr 1; omega⟩
  · rw [if_neg hm]
    refine ⟨fun k hk => ?_, ?_, by simp⟩
    · rcases List.mem_append.1 hk with h1 | h1
      · exact h.kb k h1
      · simp at h1; omega
    · rw [List.pairwise_append]
      refine ⟨h.ks, by simp, fun a ha b hb => ?_⟩
      have h1 := ht a ha
      have : a ≠ x.size := fun e => hm (e ▸ ha)
      simp at hb; omega
theorem au_rw {S : AuS} {w : World} (h : AuP S w) {v : Value} (hv : S.lastV = v) : St [bl S.bA, bl S.bm] w w [cl S.bA (auC S.p S.o v (.map (some S.bm))) TAu, me S.bm keI S.fs S.clk] := by
 subst hv
 exact St.from w _ _ (fun e he => by
  simp only [List.mem_cons, List.not_mem_nil, or_false] at he
  rcases he with rfl | rfl
  · exact ⟨by simpa using h.a, fun k hk => by simp at hk; simp [bl, hk]⟩
  · exact ⟨by simpa using h.m, fun k hk => by simp at hk; simp [bl, hk]⟩) (by
    refine .cons (fun y hy => ?_) (by simp)
    obtain rfl : y = me S.bm keI S.fs S.clk := by simpa using hy
    have := h.ne
    exact fun k => ⟨fun h1 h2 => by simp at h1 h2; omega, fun h1 h2 => by simp at h1 h2; omega⟩)
theorem qba {S : AuS} {x : Hd} (hx : S.last = some x) : S.lastV = ptr S.bh := by unfold AuS.lastV; rw [hx]
theorem qbb {S : AuS} (hx : S.last = none) : S.lastV = .pointer none := by unfold AuS.lastV; rw [hx]
theorem au_rwH {S : AuS} {w : World} (h : AuP S w) (x : Hd) (hx : S.last = some x) : St [bl S.bA, bl S.bm] w w [cl S.bA (auC S.p S.o (ptr S.bh) (.map (some S.bm))) TAu, me S.bm keI S.fs S.clk, cr S.bh (hdC x) THd] :=
 St.from w _ _ (fun e he => by
  simp only [List.mem_cons, List.not_mem_nil, or_false] at he
  rcases he with rfl | rfl | rfl
  · have := h.a
    unfold AuS.lastV at this
    rw [hx] at this
    exact ⟨by simpa using this, fun k hk => by simp at hk; simp [bl, hk]⟩
  · exact ⟨by simpa using h.m, fun k hk => by simp at hk; simp [bl, hk]⟩
  · exact ⟨by simpa using h.h x hx, fun k hk => by simp at hk⟩) (by
    have h1 := h.ne
    obtain ⟨h2, h3⟩ := h.nh (by rw [hx]; simp)
    refine .cons (fun y hy => ?_) (.cons (fun y hy => ?_) (by simp))
    · simp only [List.mem_cons, List.not_mem_nil, or_false] at hy
      rcases hy with rfl | rfl
      · exact fun k => ⟨fun h1 h2 => by simp at h1 h2; omega, fun h1 h2 => by simp at h1 h2; omega⟩
      · exact fun k => ⟨fun h1 h2 => by simp at h1 h2; omega, fun h1 h2 => by simp at h1⟩
    · obtain rfl : y = cr S.bh (hdC x) THd := by simpa using hy
      exact fun k => ⟨fun h1 h2 => by simp at h1 h2; omega, fun h1 h2 => by simp at h1⟩)
theorem Zz {S : AuS} {w w' : World} {L : List Ent} (h : AuP S w) {v : Value} (hv : S.lastV = v) (hs : St [bl S.bA, bl S.bm] w w' L) (h0 : L[0]? = some (cl S.bA (auC S.p S.o v (.map (some S.bm))) TAu)) (h1 : L[1]? = some (me S.bm keI S.fs S.clk)) : Below w.heap.size w w' := by
 subst hv
 refine ⟨hs.os, hs.tape, hs.output, hs.size, fun k hk => ?_⟩
 by_cases ha : k = S.bA
 · subst ha; rw [hs.nth h0, h.a]
 · by_cases hb : k = S.bm
   · subst hb; rw [hs.nth h1, h.m]
   · exact hs.old k hk (by simp [bl, ha, hb])
theorem au_same {S : AuS} {w w' : World} {L : List Ent} (h : AuP S w) {v : Value} (hv : S.lastV = v) (hs : St [bl S.bA, bl S.bm] w w' L) (h0 : L[0]? = some (cl S.bA (auC S.p S.o v (.map (some S.bm))) TAu)) (h1 : L[1]? = some (me S.bm keI S.fs S.clk)) : Turns w w' (auR S) (auR S) :=
 Turns.of_below (r := auR S) h (Zz h hv hs h0 h1)
theorem au_put {S : AuS} {w w' : World} {L : List Ent} {x : Hd} {b j : Nat} (h : AuP S w) (hx : HdOk x) (hz : 0 ≤ x.size ∧ x.size ≤ 1048576) (hge : ∀ l, S.last = some l → l.size ≤ x.size) (hs : St [bl S.bA, bl S.bm] w w' L) (h0 : L[0]? = some (cl S.bA (auC S.p S.o (ptr b) (.map (some S.bm))) TAu)) (h1 : L[1]? = some (me S.bm keI (ZB x.size (Zi x.root) S.clk S.fs) (clkS x.size S.fs S.clk)))
 (h2 : L[j]? = some (cl b (hdC x) THd)) (hj : 2 ≤ j) : Turns w w' (auR S) (auR (S.put x b)) := by
 obtain ⟨k1, k2, k3⟩ := put_keys h hz hge (Zi x.root)
 obtain ⟨e1, e2⟩ := set_es x.size (Zi x.root) S.clk S.fs h.nb h.lt
 have hb : w.heap.size ≤ b := by
  rcases hs.own _ (List.mem_of_getElem? h2) rfl rfl with hh | hh
  · exact hh
  · have l0 := (Array.getElem?_eq_some_iff.1 h.a).1
    have l1 := (Array.getElem?_eq_some_iff.1 h.m).1
    have p0 := ZU hs.apart h0 h2 (by omega)
    have p1 := ZU hs.apart h1 h2 (by omega)
    simp only [qbg, qcd, bl, or_false] at hh
    rcases hh with hh | hh
    · exact absurd (by simp [hh]) ((p0 b).2 (by simp))
    · exact absurd (by simp [hh]) ((p1 b).2 (by simp))
 have l0 := (Array.getElem?_eq_some_iff.1 h.a).1
 have l1 := (Array.getElem?_eq_some_iff.1 h.m).1
 refine Turns.of_st hs (fun k hk => ?_) ⟨hs.nth h0, hs.nth h1, fun y hy => ?_, h.ne, fun _ => ⟨?_, ?_⟩, e1, fun e he => (e2 e he).1, fun y hy => ?_, fun e he => ?_, k1, k2, fun y hy => ?_, fun hy => ?_⟩ (fun k hk => ?_) (fun k hk => ?_)
 · simp only [qbg, qcd, bl, or_false] at hk
   rcases hk with hk | hk
   · exact .inl hk
   · exact .inr (.inl hk)
 · obtain rfl : x = y := Option.some.inj hy
   exact hs.nth h2
 · show b ≠ S.bA; omega
 · show b ≠ S.bm; omega
 · obtain rfl : x = y := Option.some.inj hy
   exact hx
 · rcases (e2 e he).2 with h3 | h3
   · exact h.v e h3
   · exact ⟨x.root, hx.1, h3⟩
 · obtain rfl : x = y := Option.some.inj hy
   exact k3
 · cases hy
 · rcases hk with rfl | rfl | ⟨_, rfl⟩
   · exact .inl (.inl rfl)
   · exact .inl (.inr (.inl rfl))
   · exact .inr hb
 · rcases hk with (rfl | rfl | ⟨_, rfl⟩) | hk
   · exact .inl (.inl (.inl rfl))
   · exact .inl (.inl (.inr (.inl rfl)))
   · exact .inr hb
   · exact hk.elim
theorem qcg (p : Nat) (o : Bs) (l m : Value) : (auC p o l m).extract 0 (0 + 32) = k32 p := by
 have hl : (k32 p).toList.length = 32 := by simpa using qg p
 unfold auC
 rw [List.extract_toArray, List.extract_eq_take_drop, List.drop_zero, List.take_left' (by rw [hl])]
theorem hd_root (h : Hd) (hr : h.root.length = 32) : (hdC h).extract 3 (3 + 32) = (Lib.byteCells h.root).toArray := by
 unfold hdC
 rw [List.extract_toArray, List.extract_eq_take_drop]
 show (List.take 32 (Lib.byteCells h.root ++ Lib.byteCells h.sig)).toArray = _
 rw [List.take_left' (by simp [Lib.byteCells_length, hr])]
abbrev qbL (S : AuS) (h : Hd) (r : Nat) (w : World) : Prop := ∀ w', Below w.heap.size w w' → Calls Tryz.prog 47 ([.agg (hdC h), .agg (k32 S.p), VS S.o] : List Value).toArray w' fun e w'' => e = .returned (qcZ r) ∧ Below w'.heap.size w' w''
abbrev GrowsC (l h : Hd) (ps : Value) (g : Bool) (w : World) : Prop := ∀ w', Below w.heap.size w w' → Calls Tryz.prog 48 ([.int .i64 l.size, Zi l.root, .int .i64 h.size, Zi h.root, ps] : List Value).toArray w' fun e w'' => e = .returned (.bool g) ∧ Below w'.heap.size w' w''
theorem auC_set (p : Nat) (o : Bs) (l l' m : Value) : (auC p o l m).setIfInBounds 33 l' = auC p o l' m := by
 have hl : (k32 p).toList.length = 32 := by simpa using qg p
 apply Array.ext'
 unfold auC
 simp only [Array.toList_setIfInBounds]
 rw [List.set_append_right _ _ (by omega), hl]
 rfl
theorem take_first (S : AuS) (x : Hd) (a : Option Addr) (n c r : Nat) (hl : S.last = none) (hx : HdOk x) (w : World) (h : AuP S w) (hR : qbL S x r w) (hr : r = 0) (hn : 0 < n) :
 Calls Tryz.prog 15 ([ptr S.bA, .agg (hdC x), .slice a n c] : List Value).toArray w fun e w' => e = .returned (qcZ 13) ∧ Turns w w' (auR S) (auR S) := by
 have hsz := zx x hx.1 hx.2
 have ha := qda S.p S.o (.pointer none) (.map (some S.bm))
 refine (enter qe Tryz.func15 rfl Tryz.ntmps15 rfl (au_rw h (qbb hl)) (R := fun v w' => v = qcZ 13 ∧ Turns w w' (auR S) (auR S)) ?_).mono (fun e w' ⟨v, he, h1⟩ => ⟨by rw [he, h1.1], h1.2⟩)
 intro b4
 refine cf rfl ?_
 refine dr [cl S.bA (auC S.p S.o (.pointer none) (.map (some S.bm))) TAu, me S.bm keI S.fs S.clk, cl b4 (hdC x) THd] 99 (.t 0 (.t 1 (.t 2 (.t 3 (.t 4 (.t 5 (.t 6 (.t 7 (.t 8 (.n 9 (.t 10 .nil))))))))))) qe qk (by kernel_rfl) (.cons (.cons (.cons .nil))) ?_
 refine ldN 2 rfl hsz ?_
 refine ldP 0 (d := k32 S.p) rfl (qg _) (qcg _ _ _ _) ?_
 refine ld1 0 rfl (by exact ha.1) ?_
 refine cvs (fun w' hs => hR w' (Zz h (qbb hl) hs rfl rfl)) ?_
 refine ⟨.cons (.cons (.cons .nil)), ?_⟩
 subst hr
 refine cf rfl ?_
 refine ld1 0 rfl (by exact ha.2.1) ?_
 iterate 4 refine ct rfl ?_
 refine ct (decide_eq_true (by omega)) ?_
 exact ⟨fun w1 hs => ⟨rfl, au_same h (qbb hl) hs rfl rfl⟩⟩
theorem take_one (S : AuS) (x : Hd) (a : Option Addr) (n c r : Nat) (hl : S.last = none) (hx : HdOk x) (w : World) (h : AuP S w) (hR : qbL S x r w) (hr : r = 0) (hn : n = 0) (hz : 0 ≤ x.size ∧ x.size ≤ 1048576) :
 Calls Tryz.prog 15 ([ptr S.bA, .agg (hdC x), .slice a n c] : List Value).toArray w fun e w' => e = .returned .nilIface ∧ ∃ b, Turns w w' (auR S) (auR (S.put x b)) := by
 have hsz := zx x hx.1 hx.2
 have ha := qda S.p S.o (.pointer none) (.map (some S.bm))
 refine (enter qe Tryz.func15 rfl Tryz.ntmps15 rfl (au_rw h (qbb hl)) (R := fun v w' => v = .nilIface ∧ ∃ b, Turns w w' (auR S) (auR (S.put x b))) ?_).mono (fun e w' ⟨v, he, h1⟩ => ⟨by rw [he, h1.1], h1.2⟩)
 intro b4
 refine cf rfl ?_
 refine dr [cl S.bA (auC S.p S.o (.pointer none) (.map (some S.bm))) TAu, me S.bm keI S.fs S.clk, cl b4 (hdC x) THd] 99 (.t 0 (.t 1 (.t 2 (.t 3 (.t 4 (.t 5 (.t 6 (.t 7 (.t 8 (.n 9 (.t 10 .nil))))))))))) qe qk (by kernel_rfl) (.cons (.cons (.cons .nil))) ?_
 refine ldN 2 rfl hsz ?_
 refine ldP 0 (d := k32 S.p) rfl (qg _) (qcg _ _ _ _) ?_
 refine ld1 0 rfl (by exact ha.1) ?_
 refine cvs (fun w' hs => hR w' (Zz h (qbb hl) hs rfl rfl)) ?_
 refine ⟨.cons (.cons (.cons .nil)), ?_⟩
 have hge : ∀ l, S.last = some l → l.size ≤ x.size := fun l hl' => by rw [hl] at hl'; cases hl'
 subst hn
 subst hr
 refine cf rfl ?_
 refine ld1 0 rfl (by exact ha.2.1) ?_
 iterate 4 refine ct rfl ?_
 refine cf rfl ?_
 refine ct rfl ?_
 refine drs [cl S.bA (auC S.p S.o (.pointer none) (.map (some S.bm))) TAu, me S.bm keI S.fs S.clk, cl b4 (hdC x) THd] [11, 12, 13, 14] (.t 0 (.t 1 (.t 2 (.t 3 (.t 4 (.t 5 (.t 6 (.t 7 (.t 8 (.t 9 (.t 10 (.n 11 (.n 12 (.n 13 (.n 14 .nil))))))))))))))) qe qk (by kernel_rfl) (.cons (.cons (.cons .nil))) ?_
 refine ld1 0 rfl (by exact ha.2.2) ?_
 refine ld1 2 rfl rfl ?_
 refine ldP 2 (d := (Lib.byteCells x.root).toArray) rfl (by simp [Lib.byteCells_length, hx.1]) (hd_root x hx.1) ?_
 refine s1e 0 (auC S.p S.o (ptr b4) (.map (some S.bm))) rfl (by rw [auC_size]; decide) (auC_set _ _ _ _ _) ?_
 refine men (ke := keI) 1 rfl undMp keyI zSum ?_
 refine est (ke := keI) 1 rfl rfl h.nb h.lt ?_
 exact ⟨fun w1 hs => ⟨rfl, b4, au_put (j := 2) h hx hz hge hs rfl rfl rfl (by decide)⟩⟩
theorem take_time (S : AuS) (x : Hd) (a : Option Addr) (n c r : Nat) (l : Hd) (hl : S.last = some l) (hx : HdOk x) (w : World) (h : AuP S w) (hR : qbL S x r w) (hr : r = 0) (h1 : l.size ≤ x.size) (h2 : x.time < l.time) :
 Calls Tryz.prog 15 ([ptr S.bA, .agg (hdC x), .slice a n c] : List Value).toArray w fun e w' => e = .returned (qcZ 2) ∧ Turns w w' (auR S) (auR S) := by
 have hsz := zx x hx.1 hx.2
 have ha := qda S.p S.o (ptr S.bh) (.map (some S.bm))
 have lsz := zx l (h.hk l hl).1 (h.hk l hl).2
 refine (enter qe Tryz.func15 rfl Tryz.ntmps15 rfl (au_rwH h l hl) (R := fun v w' => v = qcZ 2 ∧ Turns w w' (auR S) (auR S)) ?_).mono (fun e w' ⟨v, he, h1⟩ => ⟨by rw [he, h1.1], h1.2⟩)
 intro b4
 refine cf rfl ?_
 refine dr [cl S.bA (auC S.p S.o (ptr S.bh) (.map (some S.bm))) TAu, me S.bm keI S.fs S.clk, cr S.bh (hdC l) THd, cl b4 (hdC x) THd] 99 (.t 0 (.t 1 (.t 2 (.t 3 (.t 4 (.t 5 (.t 6 (.t 7 (.t 8 (.n 9 (.t 10 .nil))))))))))) qe qk (by kernel_rfl) (.cons (.cons (.cons (.cons .nil)))) ?_
 refine ldN 3 rfl hsz ?_
 refine ldP 0 (d := k32 S.p) rfl (qg _) (qcg _ _ _ _) ?_
 refine ld1 0 rfl (by exact ha.1) ?_
 refine cvs (fun w' hs => hR w' (Zz h (qba hl) hs rfl rfl)) ?_
 refine ⟨.cons (.cons (.cons (.cons .nil))), ?_⟩
 subst hr
 refine cf rfl ?_
 refine ld1 0 rfl (by exact ha.2.1) ?_
 iterate 6 refine cf rfl ?_
 refine dr [cl S.bA (auC S.p S.o (ptr S.bh) (.map (some S.bm))) TAu, me S.bm keI S.fs S.clk, cr S.bh (hdC l) THd, cl b4 (hdC x) THd] 99 (.t 0 (.t 1 (.t 2 (.t 3 (.t 4 (.t 5 (.t 6 (.t 7 (.t 8 (.t 9 (.t 10 (.t 11 (.t 12 (.t 13 (.t 14 (.t 15 (.t 16 .nil))))))))))))))))) qe qk (by kernel_rfl) (.cons (.cons (.cons (.cons .nil)))) ?_
 refine ld1 3 rfl rfl ?_
 refine ld1 2 rfl rfl ?_
 have g1 : decide (x.size < l.size) = false := decide_eq_false (by omega)
 have g1' : (decide (x.size < l.size) == false) = true := by rw [g1]; rfl
 have g2 := decide_eq_true h2
 iterate 2 refine ct g1' ?_
 refine ld1 3 rfl rfl ?_
 iterate 4 refine ct g1' ?_
 refine ld1 2 rfl rfl ?_
 refine ct g1' ?_
 refine cf g1 ?_
 refine ct g2 ?_
 exact ⟨fun w1 hs => ⟨rfl, au_same h (qba hl) hs rfl rfl⟩⟩
theorem take_proof (S : AuS) (x : Hd) (a : Option Addr) (n c r : Nat) (l : Hd) (hl : S.last = some l) (hx : HdOk x) (w : World) (h : AuP S w) (hR : qbL S x r w) (hr : r = 0) (h1 : l.size ≤ x.size) (h2 : l.time ≤ x.time) (hG : GrowsC l x (.slice a n c) false w) :
 Calls Tryz.prog 15 ([ptr S.bA, .agg (hdC x), .slice a n c] : List Value).toArray w fun e w' => e = .returned (qcZ 13) ∧ Turns w w' (auR S) (auR S) := by
 have hsz := zx x hx.1 hx.2
 have ha := qda S.p S.o (ptr S.bh) (.map (some S.bm))
 have lsz := zx l (h.hk l hl).1 (h.hk l hl).2
 refine (enter qe Tryz.func15 rfl Tryz.ntmps15 rfl (au_rwH h l hl) (R := fun v w' => v = qcZ 13 ∧ Turns w w' (auR S) (auR S)) ?_).mono (fun e w' ⟨v, he, h1⟩ => ⟨by rw [he, h1.1], h1.2⟩)
 intro b4
 refine cf rfl ?_
 refine dr [cl S.bA (auC S.p S.o (ptr S.bh) (.map (some S.bm))) TAu, me S.bm keI S.fs S.clk, cr S.bh (hdC l) THd, cl b4 (hdC x) THd] 99 (.t 0 (.t 1 (.t 2 (.t 3 (.t 4 (.t 5 (.t 6 (.t 7 (.t 8 (.n 9 (.t 10 .nil))))))))))) qe qk (by kernel_rfl) (.cons (.cons (.cons (.cons .nil)))) ?_
 refine ldN 3 rfl hsz ?_
 refine ldP 0 (d := k32 S.p) rfl (qg _) (qcg _ _ _ _) ?_
 refine ld1 0 rfl (by exact ha.1) ?_
 refine cvs (fun w' hs => hR w' (Zz h (qba hl) hs rfl rfl)) ?_
 refine ⟨.cons (.cons (.cons (.cons .nil))), ?_⟩
 subst hr
 refine cf rfl ?_
 refine ld1 0 rfl (by exact ha.2.1) ?_
 iterate 6 refine cf rfl ?_
 refine dr [cl S.bA (auC S.p S.o (ptr S.bh) (.map (some S.bm))) TAu, me S.bm keI S.fs S.clk, cr S.bh (hdC l) THd, cl b4 (hdC x) THd] 99 (.t 0 (.t 1 (.t 2 (.t 3 (.t 4 (.t 5 (.t 6 (.t 7 (.t 8 (.t 9 (.t 10 (.t 11 (.t 12 (.t 13 (.t 14 (.t 15 (.t 16 .nil))))))))))))))))) qe qk (by kernel_rfl) (.cons (.cons (.cons (.cons .nil)))) ?_
 refine ld1 3 rfl rfl ?_
 refine ld1 2 rfl rfl ?_
 have g1 : decide (x.size < l.size) = false := decide_eq_false (by omega)
 have g1' : (decide (x.size < l.size) == false) = true := by rw [g1]; rfl
 have g2 : decide (x.time < l.time) = false := decide_eq_false (by omega)
 iterate 2 refine ct g1' ?_
 refine ld1 3 rfl rfl ?_
 iterate 4 refine ct g1' ?_
 refine ld1 2 rfl rfl ?_
 refine ct g1' ?_
 refine cf g1 ?_
 refine cf g2 ?_
 refine dr [cl S.bA (auC S.p S.o (ptr S.bh) (.map (some S.bm))) TAu, me S.bm keI S.fs S.clk, cr S.bh (hdC l) THd, cl b4 (hdC x) THd] 99 (.t 0 (.t 1 (.t 2 (.t 3 (.t 4 (.t 5 (.t 6 (.t 7 (.t 8 (.t 9 (.t 10 (.t 11 (.t 12 (.n 13 (.t 14 (.t 15 .nil)))))))))))))))) qe qk (by kernel_rfl) (.cons (.cons (.cons (.cons .nil)))) ?_
 refine ld1 2 rfl rfl ?_
 refine ldP 2 (d := (Lib.byteCells l.root).toArray) rfl (by simp [Lib.byteCells_length, (h.hk l hl).1]) (hd_root l (h.hk l hl).1) ?_
 refine ld1 3 rfl rfl ?_
 refine ldP 3 (d := (Lib.byteCells x.root).toArray) rfl (by simp [Lib.byteCells_length, hx.1]) (hd_root x hx.1) ?_
 refine cvs (fun w' hs => hG w' (Zz h (qba hl) hs rfl rfl)) ?_
 refine ⟨.cons (.cons (.cons (.cons .nil))), ?_⟩
 refine ct rfl ?_
 exact ⟨fun w1 hs => ⟨rfl, au_same h (qba hl) hs rfl rfl⟩⟩
end
section
open Go.Shelf
def qdR : Go.Shelf.Ren := ⟨fun | 7 => 50 | 10 => 88 | n => n, fun | 23 => 93 | 26 => 3 | 3 => 39 | 28 => 110 | 0 => 0 | 27 => 109 | 33 => 156 | 4 => 4 | n => n, fun | n => n⟩
theorem Lkeys : Go.Proofs.SlLaysZI.n7 Tryz.prog qdR := {
 mixed := by kernel_rfl
 f7 := ⟨Tryz.f50.name, by decide, Tryz.func50.trans (congrArg some (by kernel_rfl))⟩
 f10 := ⟨Tryz.f88.name, by decide, Tryz.func88.trans (congrArg some (by kernel_rfl))⟩
 t0 := Tryz.underlying0
 a0 := Tryz.isAgg0
 z0 := Tryz.sizeOf0
 v0 := Tryz.zeroValue0
 t4 := Tryz.underlying4
 a4 := Tryz.isAgg4
 z4 := Tryz.sizeOf4
 v4 := Tryz.zeroValue4
 t23 := Tryz.underlying93
 a23 := Tryz.isAgg93
 z23 := Tryz.sizeOf93
 v23 := Tryz.zeroValue93
 t26 := Tryz.underlying3
 a26 := Tryz.isAgg3
 z26 := Tryz.sizeOf3
 v26 := Tryz.zeroValue3
 t27 := Tryz.underlying109
 a27 := Tryz.isAgg109
 z27 := Tryz.sizeOf109
 v27 := Tryz.zeroValue109
 t28 := Tryz.underlying110
 a28 := Tryz.isAgg110
 z28 := Tryz.sizeOf110
 v28 := Tryz.zeroValue110
 t33 := Tryz.underlying156
 a33 := Tryz.isAgg156
 z33 := Tryz.sizeOf156
 v33 := Tryz.zeroValue156 }
def qbZ : Go.Shelf.Ren := ⟨fun | 6 => 49 | 8 => 86 | 9 => 87 | 11 => 129 | 13 => 131 | 12 => 130 | 23 => 186 | 24 => 187 | 14 => 177 | 15 => 178 | 16 => 179 | 17 => 180 | 18 => 181 | 19 => 182 | 20 => 183 | 21 => 184 | 22 => 185 | 25 => 225 | 26 => 226 | 27 => 227 | 28 => 228 | 29 => 229 | 30 => 230 | 31 => 256 | n => n, fun | 26 => 3 | 28 => 110 | 24 => 54 | 0 => 0 | 3 => 3 | 37 => 58 | 48 => 127 | 50 => 131 | 4 => 4 | 40 => 256 | 39 => 255 | 45 => 260 | 5 => 5 | 9 => 9 | 51 => 309 | 55 => 313 | 57 => 347 | 58 => 348 | 33 => 156 | n => n, fun | n => n⟩
theorem Lsorted : Go.Proofs.SlLaysZI.n6 Tryz.prog qbZ := {
 mixed := by kernel_rfl
 f6 := ⟨Tryz.f49.name, by decide, Tryz.func49.trans (congrArg some (by kernel_rfl))⟩
 f8 := ⟨Tryz.f86.name, by decide, Tryz.func86.trans (congrArg some (by kernel_rfl))⟩
 f11 := ⟨Tryz.f129.name, by decide, Tryz.func129.trans (congrArg some (by kernel_rfl))⟩
 t0 := Tryz.underlying0
 a0 := Tryz.isAgg0
 z0 := Tryz.sizeOf0
 v0 := Tryz.zeroValue0
 t24 := Tryz.underlying54
 a24 := Tryz.isAgg54
 z24 := Tryz.sizeOf54
 v24 := Tryz.zeroValue54
 t26 := Tryz.underlying3
 a26 := Tryz.isAgg3
 z26 := Tryz.sizeOf3
 v26 := Tryz.zeroValue3
 t28 := Tryz.underlying110
 a28 := Tryz.isAgg110
 z28 := Tryz.sizeOf110
 v28 := Tryz.zeroValue110
 i26 := by kernel_rfl }
def Lsort_ren : Go.Shelf.Ren := ⟨fun | 5 => 87 | 8 => 131 | 7 => 130 | 19 => 186 | 20 => 187 | 10 => 177 | 11 => 178 | 12 => 179 | 13 => 180 | 14 => 181 | 15 => 182 | 16 => 183 | 17 => 184 | 18 => 185 | 30 => 225 | 31 => 226 | 32 => 227 | 33 => 228 | 34 => 229 | 35 => 230 | 40 => 256 | n => n, fun | 23 => 54 | 25 => 3 | 3 => 3 | 32 => 58 | 22 => 54 | 0 => 0 | 44 => 127 | 46 => 131 | 4 => 4 | 36 => 256 | 35 => 255 | 41 => 260 | 5 => 5 | 9 => 9 | 53 => 309 | 57 => 313 | 63 => 347 | 64 => 348 | n => n, fun | n => n⟩
theorem Lsort : Go.Proofs.SlLaysM.n5 Tryz.prog Lsort_ren := {
 mixed := by kernel_rfl
 f5 := ⟨Tryz.f87.name, by decide, Tryz.func87.trans (congrArg some (by kernel_rfl))⟩
 f7 := ⟨Tryz.f130.name, by decide, Tryz.func130.trans (congrArg some (by kernel_rfl))⟩
 f8 := Tryz.func131.trans (congrArg some (by kernel_rfl))
 f10 := ⟨Tryz.f177.name, by decide, Tryz.func177.trans (congrArg some (by kernel_rfl))⟩
 f11 := ⟨Tryz.f178.name, by decide, Tryz.func178.trans (congrArg some (by kernel_rfl))⟩
 f12 := ⟨Tryz.f179.name, by decide, Tryz.func179.trans (congrArg some (by kernel_rfl))⟩
 f13 := ⟨Tryz.f180.name, by decide, Tryz.func180.trans (congrArg some (by kernel_rfl))⟩
 f14 := ⟨Tryz.f181.name, by decide, Tryz.func181.trans (congrArg some (by kernel_rfl))⟩
 f15 := ⟨Tryz.f182.name, by decide, Tryz.func182.trans (congrArg some (by kernel_rfl))⟩
 f16 := ⟨Tryz.f183.name, by decide, Tryz.func183.trans (congrArg some (by kernel_rfl))⟩
 f17 := ⟨Tryz.f184.name, by decide, Tryz.func184.trans (congrArg some (by kernel_rfl))⟩
 f18 := ⟨Tryz.f185.name, by decide, Tryz.func185.trans (congrArg some (by kernel_rfl))⟩
 f19 := Tryz.func186.trans (congrArg some (by kernel_rfl))
 f20 := Tryz.func187.trans (congrArg some (by kernel_rfl))
 f30 := ⟨Tryz.f225.name, by decide, Tryz.func225.trans (congrArg some (by kernel_rfl))⟩
 f31 := Tryz.func226.trans (congrArg some (by kernel_rfl))
 f32 := Tryz.func227.trans (congrArg some (by kernel_rfl))
 f33 := ⟨Tryz.f228.name, by decide, Tryz.func228.trans (congrArg some (by kernel_rfl))⟩
 f34 := ⟨Tryz.f229.name, by decide, Tryz.func229.trans (congrArg some (by kernel_rfl))⟩
 f35 := ⟨Tryz.f230.name, by decide, Tryz.func230.trans (congrArg some (by kernel_rfl))⟩
 f40 := ⟨Tryz.f256.name, by decide, Tryz.func256.trans (congrArg some (by kernel_rfl))⟩
 t0 := Tryz.underlying0
 a0 := Tryz.isAgg0
 z0 := Tryz.sizeOf0
 v0 := Tryz.zeroValue0
 t3 := Tryz.underlying3
 a3 := Tryz.isAgg3
 z3 := Tryz.sizeOf3
 v3 := Tryz.zeroValue3
 t4 := Tryz.underlying4
 a4 := Tryz.isAgg4
 z4 := Tryz.sizeOf4
 v4 := Tryz.zeroValue4
 t5 := Tryz.underlying5
 a5 := Tryz.isAgg5
 z5 := Tryz.sizeOf5
 v5 := Tryz.zeroValue5
 t9 := Tryz.underlying9
 a9 := Tryz.isAgg9
 z9 := Tryz.sizeOf9
 v9 := Tryz.zeroValue9
 t22 := Tryz.underlying54
 a22 := Tryz.isAgg54
 z22 := Tryz.sizeOf54
 v22 := Tryz.zeroValue54
 t23 := Tryz.underlying54
 a23 := Tryz.isAgg54
 z23 := Tryz.sizeOf54
 v23 := Tryz.zeroValue54
 t25 := Tryz.underlying3
 a25 := Tryz.isAgg3
 z25 := Tryz.sizeOf3
 v25 := Tryz.zeroValue3
 t32 := Tryz.underlying58
 a32 := Tryz.isAgg58
 z32 := Tryz.sizeOf58
 v32 := Tryz.zeroValue58
 t35 := Tryz.underlying255
 a35 := Tryz.isAgg255
 z35 := Tryz.sizeOf255
 v35 := Tryz.zeroValue255
 t36 := Tryz.underlying256
 a36 := Tryz.isAgg256
 z36 := Tryz.sizeOf256
 v36 := Tryz.zeroValue256
 t41 := Tryz.underlying260
 a41 := Tryz.isAgg260
 z41 := Tryz.sizeOf260
 v41 := Tryz.zeroValue260
 t44 := Tryz.underlying127
 a44 := Tryz.isAgg127
 z44 := Tryz.sizeOf127
 v44 := Tryz.zeroValue127
 t46 := Tryz.underlying131
 a46 := Tryz.isAgg131
 z46 := Tryz.sizeOf131
 v46 := Tryz.zeroValue131
 t53 := Tryz.underlying309
 a53 := Tryz.isAgg309
 z53 := Tryz.sizeOf309
 v53 := Tryz.zeroValue309
 t57 := Tryz.underlying313
 a57 := Tryz.isAgg313
 z57 := Tryz.sizeOf313
 v57 := Tryz.zeroValue313
 t63 := Tryz.underlying347
 a63 := Tryz.isAgg347
 z63 := Tryz.sizeOf347
 v63 := Tryz.zeroValue347
 t64 := Tryz.underlying348
 a64 := Tryz.isAgg348
 z64 := Tryz.sizeOf348
 v64 := Tryz.zeroValue348 }
end
section
open Go.RowKit Go.Sx Go.Maps Go.Sort Go.Shelf
theorem coV {C : Cx} {L : List Ent} {g : FuncId} {vs : List Value} {n z : Nat} {xs : List Value} {e : TypeId} {next : Value → List Ent → Prop} (F : Value → Value)
 (h : ∀ w, St C.M C.B w L → Calls C.P g vs.toArray w fun en w' => ∃ r, en = .returned (F (sv r n)) ∧ Rw z n r xs ∧ qbp w w' r xs e ∧ Below w.heap.size w w')
 (go : ∀ r, Rw z n r xs → next (F (sv r n)) (L ++ [se r xs e])) : zI C g vs L next := by
 refine ⟨fun w hs => (h w hs).mono fun en w' ⟨r, he, hR, ho, hb⟩ => ⟨_, _, he, ?_, go r hR⟩⟩
 cases r with
 | none => exact (hs.call hb).deads
 | some p =>
  obtain ⟨b, c, j⟩ := p
  obtain ⟨h1, h2⟩ := ho b c j rfl
  exact hs.add hb h1 h2
abbrev TM : Nat := 93
theorem sorts (m : Nat) : AnyZI.SortsIn Tryz.prog qbZ Fence.wide m :=
 ⟨fun blk off cap ss W hH hblk hsz => callsIn_wide.2 (AnyM.slices_Sort_int Lsort blk off cap ss W hH hblk hsz),
  fun p cap W => callsIn_wide.2 (AnyM.slices_Sort_int_none Lsort p cap W)⟩
theorem keys_call (mb : Option Nat) (W : World) : CallsIn Fence.wide 5 Tryz.prog 50 #[.map mb] W fun e w' => e = .returned (.func (.func 88) #[] #[.pointer (some ⟨W.heap.size, 0, none⟩)]) ∧ w' = W.alloc (.cells #[.map mb] TM) :=
 AnyZI.keys_in Lkeys Fence.wide 5 trivial rfl mb W
theorem sorted_call {H : Type} (Bm b nn : Nat) (D0 : DataW H) (R : Value → Option (DataW H × List MemPlace)) (w : World) (hBm : Bm < w.heap.size) (hm : w.cell? ⟨Bm, 0, none⟩ = some (.map (some b))) (hown : w.ownsMap Tryz.prog 3 R b nn D0) (hmax : Maps.size D0 ≤ maxLen) (hbytes : Maps.size D0 * 8 ≤ 140737488355328) :
 Calls Tryz.prog 49 ([.func (.func 88) #[] #[ptr Bm]] : List Value).toArray w fun e w' => ∃ (v : Value) (ss : List Int), e = .returned v ∧ ss.Perm (intKeys D0) ∧
  w'.ownsRow w.heap.size 3 1 v ss.length ((ss.mergeSort leI).map encZ) ∧ (v = .slice none 0 0 ↔ ss = []) ∧ Below w.heap.size w w' := by
 have hseq : SeqGives Fence.wide 2 Tryz.prog 88 #[.pointer (some ⟨Bm, 0, none⟩)] encZ (fun ss => ss.Perm (intKeys D0)) (Maps.size D0) w :=
  AnyZI.keys_gives (ρ := qdR) { Lkeys with } Fence.wide _ trivial rfl (by omega) Bm b nn D0 _ hBm hm hown
 exact (callsIn_wide (n := 5)).1 (AnyZI.sorted_in Lsorted Fence.wide 5 trivial trivial trivial trivial rfl (by omega) (sorts _) (enters_of Tryz.func87 (by kernel_rfl) rfl) 88 #[.pointer (some ⟨Bm, 0, none⟩)] trivial (enters_of Tryz.func88 (by kernel_rfl) rfl) _ _ hmax hbytes _ hseq)
theorem insert_perm {H : Type} (x : Lit × DataW H) (l : List (Lit × DataW H)) : (DataW.insert x l).Perm (x :: l) := by
 induction l with
 | nil => exact .refl _
 | cons y l ih =>
  unfold DataW.insert
  split
  · exact .refl _
  · exact (ih.cons y).trans (.swap x y l)
theorem qcX {H : Type} (l : List (Lit × DataW H)) : (l.foldr DataW.insert []).Perm l := by
 induction l with
 | nil => exact .refl _
 | cons y l ih => exact (insert_perm y _).trans (ih.cons y)
def RU : Value → Option (DataW Unit × List MemPlace) := fun _ => some (.nil, [])
theorem own_of {w : World} {S : AuS} (h : AuP S w) (hn : S.fs.length ≤ 1000000) :
 ∃ D0 : DataW Unit, w.ownsMap Tryz.prog 3 RU S.bm S.fs.length D0 ∧ Maps.size D0 = S.fs.length ∧ (intKeys D0).Perm (S.fs.map (·.1)) := by
 have hkey : ∀ e ∈ S.fs, WideElems.rd Tryz.prog 3 RU (zl keI e) = some (.int .i64 e.1, .nil) := fun e he => by
  have hb := h.kb e.1 (List.mem_map_of_mem he)
  unfold WideElems.rd
  have hk : keyOf Tryz.prog 3 (zl keI e).key = some (.int .i64 e.1) := by
   rw [keyOf_int undInt]
   have hw : (Lit.int .i64 e.1).wf = true := by
    simp [Lit.wf, IntKind.min, IntKind.max, IntKind.bits, IntKind.signed]; omega
   simp [zl, keI, mapKey, hw]
  rw [hk]; rfl
 have hrg : (S.fs.map (zl keI)).map (WideElems.rg Tryz.prog 3 RU) = S.fs.map fun e => (Lit.int .i64 e.1, DataW.nil) := by
  rw [List.map_map]
  exact List.map_congr_left fun e he => by simp only [Function.comp_apply, WideElems.rg, hkey e he]; rfl
 refine ⟨.map (((S.fs.map (zl keI)).map (WideElems.rg Tryz.prog 3 RU)).foldr DataW.insert []), ⟨_, S.clk, h.m, ⟨?_, ⟨?_, ?_, ?_⟩, ?_⟩, by simp, by simp⟩, ?_, ?_⟩
 · simp; unfold maxLen; omega
 · intro x hx
   simp only [List.mem_map] at hx
   obtain ⟨e, he, rfl⟩ := hx
   exact h.lt e he
 · have := h.nb
   simpa [List.map_map, Function.comp_def, zl] using this
 · have h1 : (S.fs.map (·.1)).Nodup := h.ks.imp fun {a b} h e => by omega
   have : ((S.fs.map (·.1)).map keI).Nodup := by
    rw [List.nodup_iff_pairwise_ne] at *
    rw [List.pairwise_map]
    exact h1.imp fun {a b} h e => h (by simpa [keI] using e)
   simpa [List.map_map, Function.comp_def, zl] using this
 · intro x hx
   simp only [List.mem_map] at hx
   obtain ⟨e, he, rfl⟩ := hx
   exact ⟨_, hkey e he⟩
 · show List.length _ = _
   rw [(qcX _).length_eq]; simp
 · show (List.map (fun p : Lit × DataW Unit => _root_.Go.intOf p.1) _).Perm _
   refine ((qcX _).map _).trans ?_
   rw [hrg, List.map_map]
   exact .refl _
def qbf (l : List Int) : List Value := l.map encZ
theorem sort_same {l : List Int} (h : l.Pairwise (· < ·)) : l.mergeSort leI = l := List.mergeSort_of_pairwise (h.imp fun {a b} h => by simp [leI]; omega)
theorem sizes_any (S : AuS) (w : World) (h : AuP S w) (hn : S.fs.length ≤ 1000000) : Calls Tryz.prog 17 ([ptr S.bA] : List Value).toArray w fun e w' =>
 ∃ r, e = .returned (sv r S.fs.length) ∧ Rw 1 S.fs.length r (qbf (S.fs.map (·.1))) ∧ qbp w w' r (qbf (S.fs.map (·.1))) 3 ∧ Below w.heap.size w w' := by
 have ha := (qda S.p S.o S.lastV (.map (some S.bm))).2.2
 refine (enter qe Tryz.func17 rfl Tryz.ntmps17 rfl (au_ro h) (R := fun v w' => ∃ r, v = sv r S.fs.length ∧ Rw 1 S.fs.length r (qbf (S.fs.map (·.1))) ∧ qbp w w' r (qbf (S.fs.map (·.1))) 3 ∧ Below w.heap.size w w') ?_).mono (fun e w' ⟨v, he, r, h1, h2⟩ => ⟨r, by rw [he, h1], h2⟩)
 refine cf rfl ?_
 refine ld1 0 rfl (by exact ha) ?_
 refine cn (v := fun b => .func (.func 88) #[] #[ptr b]) (o := .cells #[.map (some S.bm)] TM (0, 0)) (fun w1 hs => ?_) (fun bk1 => ?_)
 · refine ((callsIn_wide (n := 5)).1 (keys_call (some S.bm) w1)).mono ?_
   rintro e w2 ⟨rfl, rfl⟩
   exact ⟨w1.heap.size, rfl, Nat.le_refl _, heap_alloc_new w1 _, zM w1 _⟩
 refine coV (n := S.fs.length) (z := 1) (xs := qbf (S.fs.map (·.1))) (e := 3) id (fun w1 hs => ?_) (fun r hR => ?_)
 · have hm : w1.cell? ⟨bk1, 0, none⟩ = some (.map (some S.bm)) := hs.cell (k := 2) rfl 0
   have h1 : AuP S w1 := (auR S).st w w1 (fun k hk => hs.below.block k ((auR S).bd w h k hk)) h
   obtain ⟨D0, hown, hsz, hp⟩ := own_of h1 hn
   refine (sorted_call bk1 S.bm _ D0 RU w1 (hs.lt (List.mem_of_getElem? (i := 2) rfl) rfl) hm hown (by rw [hsz]; unfold maxLen; omega) (by rw [hsz]; omega)).mono ?_
   rintro e w2 ⟨v, ss, rfl, hss, hrow, hnil, hb⟩
   have hsl : ss.length = S.fs.length := by rw [(hss.trans hp).length_eq]; simp
   have hst : (ss.mergeSort leI).map encZ = qbf (S.fs.map (·.1)) := by rw [mergeSort_of_perm_i (hss.trans hp), sort_same h.ks]; rfl
   rw [hst, hsl] at hrow
   obtain ⟨h1, h2 | ⟨g, cap, cur, h2, h3, h4, h5, h6, h7, h8⟩⟩ := hrow
   · obtain ⟨rfl, h0⟩ := h2
     exact ⟨none, by rw [h0]; rfl, ⟨h1, h0⟩, fun _ _ _ h => (by cases h), hb⟩
   · rw [Nat.mul_one] at h8
     have hcur : cur = (qbf (S.fs.map (·.1)) ++ cur.toList.drop S.fs.length).toArray := by
      apply Array.ext'
      rw [← h8]; simp
     refine ⟨some (g, cap, cur.toList.drop S.fs.length), by rw [h2]; rfl, ⟨h1, h5, h6, ?_⟩, ?_, hb⟩
     · rw [← h8, List.take_append_drop]; simpa using h7
     · rintro b c j hj
       obtain ⟨rfl, rfl, rfl⟩ : g = b ∧ cap = c ∧ cur.toList.drop S.fs.length = j := by injection hj with hj; injection hj with a1 a2; injection a2 with a2 a3; exact ⟨a1, a2, a3⟩
       exact ⟨h3, by rw [← hcur]; exact h4⟩
 exact ⟨fun w1 hs => ⟨r, rfl, hR, qa9 hs rfl 3 rfl, hs.below⟩⟩
end
section
open Go.RowKit Go.Sx
def DG10 : Bs := [48, 49, 50, 51, 52, 53, 54, 55, 56, 57]
theorem rnum_fig (u : Nat) (hu : u < 10) (w : World) : Calls Tryz.prog 91 ([.int .i64 u] : List Value).toArray w fun e w' => e = .returned (VS [UInt8.ofNat (48 + u)]) ∧ Below w.heap.size w w' := by
 refine qA qe Tryz.func91 rfl Tryz.ntmps91 rfl (St.start w) ?_
 refine ct (decide_eq_true (by omega)) ?_
 refine .as ((u + 1 : Nat) : Int) (by omega) (by simp only [mn]; omega) (by simp only [mx]; omega) ?_
 refine slB (s := DG10) u (u + 1) (by omega) (by show u + 1 ≤ 10; omega) rfl rfl ?_
 refine rt ?_
 show VS _ = VS _
 congr 2
 have : (List.range 10).all (fun u => decide (((DG10.take (u + 1)).drop u) = [UInt8.ofNat (48 + u)])) = true := by decide +kernel
 exact of_decide_eq_true (List.all_eq_true.1 this u (by simpa using hu))
def rb1 (h : Hd) : Bs := QS ++ [10] ++ h.o ++ [10]
def rb2 (h : Hd) (a t : Bs) : Bs := rb1 h ++ a ++ [32] ++ t ++ [10]
def zz (h : Hd) (a t : Bs) : Bs := rb2 h a t ++ zg h.root ++ [10, 10]
theorem cat2 (a b c : Bs) (h : a ++ b = c) : (⟨a.toArray⟩ : ByteArray) ++ ⟨b.toArray⟩ = ⟨c.toArray⟩ := by rw [qaV, h]
theorem szB (a : Bs) : (⟨a.toArray⟩ : ByteArray).size = a.length := by simp [ByteArray.size]
theorem rbody_any (h : Hd) (A T : Bs) (hA : A.length ≤ 100) (hT : T.length ≤ 100) (hr : h.root.length = 32) (hg : h.sig.length = 64) (hl : h.o.length ≤ 1000) (w : World)
 (hAc : ∀ w', Below w.heap.size w w' → Calls Tryz.prog 91 ([.int .i64 h.size] : List Value).toArray w' fun e w'' => e = .returned (VS A) ∧ Below w'.heap.size w' w'')
 (hTc : ∀ w', Below w.heap.size w w' → Calls Tryz.prog 91 ([.int .i64 h.time] : List Value).toArray w' fun e w'' => e = .returned (VS T) ∧ Below w'.heap.size w' w'') :
 Calls Tryz.prog 53 ([.agg (hdC h)] : List Value).toArray w fun e w' => ∃ x : Nat × Nat, True ∧ e = .returned (.slice (some ⟨x.1, 0, none⟩) (zz h A T).length x.2) ∧ St [] w w' [rowE x.1 x.2 (zz h A T)] := by
 refine (enter qe Tryz.func53 rfl Tryz.ntmps53 rfl (St.start w) (R := fun v w' => ∃ x : Nat × Nat, v = .slice (some ⟨x.1, 0, none⟩) (zz h A T).length x.2 ∧ St [] w w' [rowE x.1 x.2 (zz h A T)]) ?_).mono (fun e w' ⟨v, he, x, h1, h2⟩ => ⟨x, trivial, by rw [he, h1], h2⟩)
 intro b1
 refine dr [cl b1 (hdC h) THd] 99 (.t 0 (.t 1 (.t 2 (.t 3 (.t 4 (.t 5 (.t 9 (.t 10 (.t 14 (.t 15 (.n 6 (.t 7 (.t 8 (.n 11 (.t 12 (.t 13 (.n 16 (.t 17 (.t 18 (.n 19 (.t 20 .nil))))))))))))))))))))) qe qk (by kernel_rfl) (.cons .nil) ?_
 refine ld1 0 rfl rfl ?_
 refine ⟨by rw [szB [99, 97, 99, 104, 101, 116, 32, 118, 49, 10], szB h.o]; simp only [List.length_append, List.length_cons, List.length_nil, rb1, QS, QP]; omega, ?_⟩
 rw [cat2 [99, 97, 99, 104, 101, 116, 32, 118, 49, 10] h.o _ rfl]
 refine ⟨by rw [szB ([99, 97, 99, 104, 101, 116, 32, 118, 49, 10] ++ h.o), szB [10]]; simp only [List.length_append, List.length_cons, List.length_nil, rb1, QS, QP]; omega, ?_⟩
 rw [cat2 ([99, 97, 99, 104, 101, 116, 32, 118, 49, 10] ++ h.o) [10] _ rfl]
 rw [show ([99, 97, 99, 104, 101, 116, 32, 118, 49, 10] : Bs) ++ h.o ++ [10] = rb1 h from rfl]
 refine ld1 0 rfl rfl ?_
 refine ld1 0 rfl rfl ?_
 refine ⟨.mk 0 32 32 rfl rfl rfl (by decide) (by decide) (by decide) (by simp) (.on (by decide) ?_)⟩
 refine cvs (fun w' hs => hAc w' hs.below) ?_
 refine ⟨.cons .nil, ?_⟩
 refine ⟨by rw [szB (rb1 h), szB A]; simp only [List.length_append, List.length_cons, List.length_nil, rb1, QS, QP]; omega, ?_⟩
 rw [cat2 (rb1 h) A _ rfl]
 refine ⟨by rw [szB (rb1 h ++ A), szB [32]]; simp only [List.length_append, List.length_cons, List.length_nil, rb1, QS, QP]; omega, ?_⟩
 rw [cat2 (rb1 h ++ A) [32] _ rfl]
 refine cvs (fun w' hs => hTc w' hs.below) ?_
 refine ⟨.cons .nil, ?_⟩
 refine ⟨by rw [szB (rb1 h ++ A ++ [32]), szB T]; simp only [List.length_append, List.length_cons, List.length_nil, rb1, QS, QP]; omega, ?_⟩
 rw [cat2 (rb1 h ++ A ++ [32]) T _ rfl]
 refine ⟨by rw [szB (rb1 h ++ A ++ [32] ++ T), szB [10]]; simp only [List.length_append, List.length_cons, List.length_nil, rb1, QS, QP]; omega, ?_⟩
 rw [cat2 (rb1 h ++ A ++ [32] ++ T) [10] _ rfl]
 rw [show rb1 h ++ A ++ [32] ++ T ++ [10] = rb2 h A T from rfl]
 have hrd : ∀ w', St [] w w' [cl b1 (hdC h) THd] → Rd w' (.slice (some ⟨b1, 3, none⟩) 32 32) (Lib.byteCells h.root) := fun w' hs => Rd.ent hs 0 (n := 32) (o := 3) rfl (by rw [Lib.byteCells_length, hr]) (by
  show (List.drop 3 (hdC h).toList).take 32 = _
  unfold hdC
  show (Lib.byteCells h.root ++ Lib.byteCells h.sig).take 32 = _
  rw [List.take_left' (by rw [Lib.byteCells_length, hr])])
 refine cvs (fun w' hs => rhex_any _ h.root (by omega) w' (hrd w' hs)) ?_
 refine ⟨.cons .nil, ?_⟩
 have h2 : (rb2 h A T).length ≤ 2000 := by simp only [rb2, rb1, QS, List.length_append, List.length_cons, List.length_nil]; omega
 refine ⟨by rw [szB (rb2 h A T), szB (zg h.root), QP]; omega, ?_⟩
 rw [cat2 (rb2 h A T) (zg h.root) _ rfl]
 refine ⟨by rw [szB (rb2 h A T ++ zg h.root), szB [10, 10], List.length_append, QP]; simp only [List.length_cons, List.length_nil]; omega, ?_⟩
 rw [cat2 (rb2 h A T ++ zg h.root) [10, 10] _ rfl]
 refine cvSt qdr ZZ undU8 (fun b cap => ?_)
 refine ⟨.cons .nil, ?_⟩
 have hzz : (⟨(zz h A T).toArray⟩ : ByteArray).size = (zz h A T).length := szB _
 refine ⟨fun w1 hs => ⟨(b, cap), ?_, hs.sub (.drop (.cons .nil))⟩⟩
 rw [← hzz]; rfl
theorem csAll_have (sg : ByteArray) (k : Nat) (hk : 3 ≤ k) (bs : List UInt8) : (Qd sg k bs).2.2 = 8 * bs.length % k := by
 obtain ⟨h1, h2⟩ := qae sg k hk bs
 have := h1.sum
 rw [← this, Nat.mul_comm, Nat.mul_add_mod, Nat.mod_eq_of_lt h2]
theorem cs1_pre (sg : ByteArray) (k : Nat) (p : List UInt8) (s : Cs) : cs1 sg k (p ++ s.1, s.2) = (p ++ (cs1 sg k s).1, (cs1 sg k s).2) := by
 unfold cs1
 split <;> simp
theorem csB_pre (sg : ByteArray) (k : Nat) (p : List UInt8) (s : Cs) (c : Nat) : csB sg k (p ++ s.1, s.2) c = (p ++ (csB sg k s c).1, (csB sg k s c).2) := by
 have h1 := cs1_pre sg k p (s.1, s.2.1 * 256 + c, s.2.2 + 8)
 unfold csB csF
 simp only at h1 ⊢
 rw [h1, cs1_pre, cs1_pre]
theorem csFold_pre (sg : ByteArray) (k : Nat) (p : List UInt8) (bs : List UInt8) : ∀ s : Cs, bs.foldl (fun s c => csB sg k s c.toNat) (p ++ s.1, s.2) = (p ++ (bs.foldl (fun s c => csB sg k s c.toNat) s).1, (bs.foldl (fun s c => csB sg k s c.toNat) s).2) := by
 induction bs with
 | nil => intro s; rfl
 | cons c bs ih => intro s; simp only [List.foldl_cons]; rw [csB_pre]; exact ih _
theorem codeL_app (sg : ByteArray) (k : Nat) (hk : 3 ≤ k) (a b : List UInt8) (h : 8 * a.length % k = 0) : Qt sg k (a ++ b) = Qt sg k a ++ Qt sg k b := by
 have h1 := csAll_have sg k hk a
 rw [h] at h1
 have h2 := (qae sg k hk a).1.bits
 rw [h1] at h2
 have h3 : (Qd sg k a).2 = (0, 0) := Prod.ext (by simpa using h2) h1
 have e : Qd sg k (a ++ b) = ((Qd sg k a).1 ++ (Qd sg k b).1, (Qd sg k b).2) := by
  have h4 := csFold_pre sg k (Qd sg k a).1 b ([], 0, 0)
  simp only [List.append_nil] at h4
  show (a ++ b).foldl _ _ = _
  rw [List.foldl_append]
  show b.foldl _ (Qd sg k a) = _
  rw [show Qd sg k a = ((Qd sg k a).1, (0, 0)) from Prod.ext rfl h3]
  exact h4
 have e1 : Qt sg k a = (Qd sg k a).1 := by unfold Qt; rw [h1, if_neg (by omega)]
 rw [e1]
 unfold Qt
 rw [e]
 simp only
 split
 · rw [List.append_assoc]
 · rfl
theorem hex_app (a b : List UInt8) : Qt zr 4 (a ++ b) = Qt zr 4 a ++ Qt zr 4 b := codeL_app zr 4 (by decide) a b (by omega)
theorem u8_cases {P : UInt8 → Prop} (h : ∀ n, n < 256 → P (UInt8.ofNat n)) (c : UInt8) : P c := by
 have := h c.toNat (UInt8.toNat_lt c)
 rwa [UInt8.ofNat_toNat] at this
theorem hex1 (c : UInt8) : Qt zr 4 [c] = zg [c] := u8_cases (P := fun c => Qt zr 4 [c] = zg [c]) (by decide +kernel) c
theorem hex_A (b : List UInt8) : Qt zr 4 b = zg b := by
 induction b with
 | nil => rfl
 | cons c b ih =>
  have := hex_app [c] b
  rw [List.singleton_append] at this
  rw [this, hex1, ih]; rfl
theorem qdO (h : Hd) (A T : Bs) : Qi h (A ++ [32] ++ T) = zz h A T := by
 have e : Qi h (A ++ [32] ++ T) = QS ++ ([10] ++ (h.o ++ ([10] ++ ((A ++ [32] ++ T) ++ ([10] ++ (Qt zr 4 h.root ++ ([10] ++ ([] ++ ([10] ++ []))))))))) := rfl
 rw [e, hex_A]
 simp only [zz, rb2, rb1, List.append_assoc, List.nil_append, List.append_nil, List.cons_append]
end
section
open Go.RowKit Go.Sx
theorem eqS {C : Cx} {L : List Ent} {x y : Bs} {a b : Operand} {next : Value → List Ent → Prop} (hP : C.P = Tryz.prog) (hx : x.length = 32) (hy : y.length = 32) (go : next (.bool (decide (x = y))) L) :
 zY C (do eqGuard .eql 39 a b (Zi x) (Zi y); binOp .eql 39 (Zi x) (Zi y)) L next :=
 eqB (e := 5) (n := 32) (by rw [hP]; kernel_rfl) (by rw [hP]; kernel_rfl) (by rw [hP]; kernel_rfl) (by rw [hP]; kernel_rfl) hx hy go
theorem qcq (r : Bs) (h : r.length = 32) : (Lib.byteCells r).toArray.size = 32 := by simp [Lib.byteCells_length, h]
theorem int_nat0 (n : Nat) : (((n : Nat) : Int) == 0) = decide (n = 0) := by rw [Bool.eq_iff_iff]; simp
theorem grows_eq (m : Int) (hm : m ≠ 0) (o r : Bs) (ho : o.length = 32) (hr : r.length = 32) (a : Option Addr) (n c : Nat) (w : World) :
 Calls Tryz.prog 48 ([.int .i64 m, Zi o, .int .i64 m, Zi r, .slice a n c] : List Value).toArray w fun e w' => e = .returned (.bool (decide (n = 0) && decide (o = r))) ∧ Below w.heap.size w w' := by
 refine qA qe Tryz.func48 rfl Tryz.ntmps48 rfl (St.start w) ?_
 intro b6 b8
 refine cf (by simpa using hm) ?_
 refine ct (by simp) ?_
 by_cases hn : n = 0
 · subst hn
   refine ct rfl ?_
   refine ldN 0 rfl (qcq o ho) ?_
   refine ct rfl ?_
   refine ldN 1 rfl (qcq r hr) ?_
   refine ct rfl ?_
   refine eqS rfl ho hr ?_
   refine ct rfl ?_
   exact rt rfl
 · have e1 : (((n : Nat) : Int) == 0) = false := by rw [int_nat0]; exact decide_eq_false hn
   have e2 : ((((n : Nat) : Int) == 0) == true) = false := by rw [e1]; rfl
   iterate 3 refine cf e2 ?_
   refine cf e1 ?_
   refine rt ?_
   rw [decide_eq_false hn]; rfl
theorem rroot1_any (b c : Nat) (r : Bs) (hr : r.length = 32) (t : TypeId) (w : World) (hw : w.heap[b]? = some (.cells (Lib.byteCells r).toArray t (0, 0))) :
 Calls Tryz.prog 35 ([.slice (some ⟨b, 0, none⟩) 1 c] : List Value).toArray w fun e w' => e = .returned (Zi r) ∧ Below w.heap.size w w' := by
 have hz := qcq r hr
 refine qA qe Tryz.func35 rfl Tryz.ntmps35 rfl (St.reads1 hw) ?_
 intro b2
 refine cf rfl ?_
 refine ct rfl ?_
 refine ⟨by decide, by decide, ?_⟩
 refine ldN 0 rfl hz ?_
 refine sN 1 rfl (hz.trans (by kernel_rfl)) (sumV_one r) ?_ (by rw [hz]; kernel_rfl)
 refine ldN 1 rfl hz ?_
 exact rt rfl
def Q9 : Nat := 2304
theorem seed_any (w : World) : Calls Tryz.prog 13 ([] : List Value).toArray w fun e w' => e = .returned (.agg (k32 Q9)) ∧ Below w.heap.size w w' := by
 refine qA qe Tryz.func13 rfl Tryz.ntmps13 rfl (St.start w) ?_
 intro b0
 refine bu (c := k32 Q9) (by kernel_rfl) ?_
 refine sN 0 rfl (by kernel_rfl) (qH _) ?_ (by kernel_rfl)
 refine ldN 0 rfl (qg _) ?_
 exact rt rfl
def logB : Bs := [108, 111, 103]
def sgnH (n : Nat) (h : Hd) (A T : Bs) : Hd := { h with sig := qde n (zz h A T) }
def hd0 (r : Bs) (n t : Int) : Hd := ⟨logB, n, t, r, List.replicate 64 0⟩
theorem Z8 (n : Nat) (bs : Bs) : (qde n bs).length = 64 := by unfold qde; rw [List.length_append, qC, qC]
theorem hd_put (h : Hd) (s : Bs) (hr : h.root.length = 32) (hs : h.sig.length = 64) (hs' : s.length = 64) : ((hdC h).toList.take 35 ++ (Lib.byteCells s).toArray.toList ++ (hdC h).toList.drop (35 + (Lib.byteCells s).toArray.size)).toArray = hdC { h with sig := s } := by
 have e : (hdC h).toList = ([VS h.o, .int .i64 h.size, .int .i64 h.time] ++ Lib.byteCells h.root) ++ Lib.byteCells h.sig := rfl
 have hz : (Lib.byteCells s).toArray.size = 64 := by simp [Lib.byteCells_length, hs']
 rw [hz, e, List.take_left' (by simp [Lib.byteCells_length, hr]), List.drop_of_length_le (by simp [Lib.byteCells_length, hr, hs]), List.append_nil]
 rfl
theorem list32 {P : Bs → Prop} (h : ∀ x0 x1 x2 x3 x4 x5 x6 x7 x8 x9 x10 x11 x12 x13 x14 x15 x16 x17 x18 x19 x20 x21 x22 x23 x24 x25 x26 x27 x28 x29 x30 x31, P [x0, x1, x2, x3, x4, x5, x6, x7, x8, x9, x10, x11, x12, x13, x14, x15, x16, x17, x18, x19, x20, x21, x22, x23, x24, x25, x26, x27, x28, x29, x30, x31]) : ∀ r : Bs, r.length = 32 → P r
 | [x0, x1, x2, x3, x4, x5, x6, x7, x8, x9, x10, x11, x12, x13, x14, x15, x16, x17, x18, x19, x20, x21, x22, x23, x24, x25, x26, x27, x28, x29, x30, x31], _ => h x0 x1 x2 x3 x4 x5 x6 x7 x8 x9 x10 x11 x12 x13 x14 x15 x16 x17 x18 x19 x20 x21 x22 x23 x24 x25 x26 x27 x28 x29 x30 x31
theorem hd_built (r : Bs) (n t : Int) (hr : r.length = 32) : Tryz.prog.built THd [(0, VS logB), (1, .int .i64 n), (2, .int .i64 t), (3, Zi r)] = some (hdC (hd0 r n t)) :=
 list32 (P := fun r => Tryz.prog.built THd [(0, VS logB), (1, .int .i64 n), (2, .int .i64 t), (3, Zi r)] = some (hdC (hd0 r n t))) (fun x0 x1 x2 x3 x4 x5 x6 x7 x8 x9 x10 x11 x12 x13 x14 x15 x16 x17 x18 x19 x20 x21 x22 x23 x24 x25 x26 x27 x28 x29 x30 x31 => by kernel_rfl) r hr
theorem rhead_core (v : Value) (r : Bs) (n : Nat) (t : Int) (A T : Bs) (hr : r.length = 32) (w : World) (hA : A.length ≤ 100) (hT : T.length ≤ 100)
 (hRoot : ∀ w', Below w.heap.size w w' → Calls Tryz.prog 35 ([v] : List Value).toArray w' fun e w'' => e = .returned (Zi r) ∧ Below w'.heap.size w' w'')
 (hv : ∃ a c, v = .slice a n c)
 (hAc : ∀ w', Below w.heap.size w w' → Calls Tryz.prog 91 ([.int .i64 n] : List Value).toArray w' fun e w'' => e = .returned (VS A) ∧ Below w'.heap.size w' w'')
 (hTc : ∀ w', Below w.heap.size w w' → Calls Tryz.prog 91 ([.int .i64 t] : List Value).toArray w' fun e w'' => e = .returned (VS T) ∧ Below w'.heap.size w' w'') :
 Calls Tryz.prog 20 ([v, .int .i64 t] : List Value).toArray w fun e w' => e = .returned (.agg (hdC (sgnH Q9 (hd0 r n t) A T))) ∧ Below w.heap.size w w' := by
 obtain ⟨a, c, rfl⟩ := hv
 have hz : (hdC (hd0 r n t)).size = 99 := zx _ hr rfl
 have hz' : (hdC (sgnH Q9 (hd0 r n t) A T)).size = 99 := zx _ hr (Z8 _ _)
 have hsz : (Lib.byteCells (qde Q9 (zz (hd0 r n t) A T))).toArray.size = 64 := by simp [Lib.byteCells_length, Z8]
 refine qA qe Tryz.func20 rfl Tryz.ntmps20 rfl (St.start w) ?_
 intro b4
 refine cvs (fun w' hs => hRoot w' hs.below) ?_
 refine bu (c := hdC (hd0 r n t)) (hd_built r n t hr) ?_
 intro b5
 refine sN 1 rfl (hz.trans (by kernel_rfl)) (qcT _) ?_ (by rw [hz]; kernel_rfl)
 refine dr [cl b4 _ THd, cl b5 (hdC (hd0 r n t)) THd] 5 (.t 0 (.t 1 (.n 2 (.n 3 (.t 4 (.n 5 .nil)))))) qe qk (by kernel_rfl) (.cons (.cons .nil)) ?_
 refine cz seed_any ?_
 refine ldN 1 rfl hz ?_
 refine cMs (v := fun x : Nat × Nat => .slice (some ⟨x.1, 0, none⟩) (zz (hd0 r n t) A T).length x.2) (es := fun x => [rowE x.1 x.2 (zz (hd0 r n t) A T)]) (fun w' hs => rbody_any (hd0 r n t) A T hA hT hr rfl (by show logB.length ≤ 1000; decide) w' (fun w'' hb => hAc w'' (hs.below.trans (hb.mono hs.below.size))) (fun w'' hb => hTc w'' (hs.below.trans (hb.mono hs.below.size)))) (fun x _ e he k hk => by
  obtain rfl : e = rowE x.1 x.2 (zz (hd0 r n t) A T) := by simpa using he
  simpa using hk) (fun x _ => ?_)
 refine ⟨.cons (.cons .nil), ?_⟩
 have hbl : (zz (hd0 r n t) A T).length ≤ 10000 := by
  rw [← qdO]
  exact Nat.le_trans (qdA _ _ hr (by show logB.length ≤ 1000; decide) (by simp; omega)) (by decide)
 refine cvs (fun w' hs => rsign_any Q9 _ (zz (hd0 r n t) A T) w' (Rd.ent hs 2 rfl (by rw [Lib.byteCells_length]) (by have := qdN (zz (hd0 r n t) A T) x.2; rw [szB] at this; exact this)) hbl) ?_
 refine ⟨.cons (.cons .nil), ?_⟩
 refine sP 1 rfl (by rw [hsz, hz]; decide) (sumV_one _) (hd_put (hd0 r n t) _ hr rfl (Z8 _ _)) ?_ (by rw [hsz]; kernel_rfl)
 refine ldN 1 rfl hz' ?_
 refine sN 0 (d := hdC (sgnH Q9 (hd0 r n t) A T)) rfl (hz'.trans (by kernel_rfl)) (qcT _) ?_ (by rw [hz']; kernel_rfl)
 refine ldN 0 rfl hz' ?_
 exact rt rfl
end
section
open Go.RowKit Go.Sx
theorem qbe (l : List Int) : (qbf l).length = l.length := by simp [qbf]
theorem intC_at {l : List Int} {i : Nat} (h : i < l.length) : (qbf l)[i]? = some (.int .i64 l[i]) := by simp [qbf, h]
theorem take_ne (a b : List Int) (i : Nat) (ha : i < a.length) (hb : i < b.length) (hp : a.take i = b.take i) (h : a[i] ≠ b[i]) : a ≠ b := by
 rintro rfl; exact h rfl
theorem ints_any (va vb : Value) (a b : List Int) (w : World) (ha : Rd w va (qbf a)) (hb : Rd w vb (qbf b)) (hl : a.length ≤ 1000000) : Calls Tryz.prog 40 ([va, vb] : List Value).toArray w fun e w' => e = .returned (.bool (decide (a = b))) ∧ Below w.heap.size w w' := by
 have ha0 := ha
 have hb0 := hb
 obtain ⟨aa, ca, rfl, _⟩ := ha
 obtain ⟨ab, cb, rfl, _⟩ := hb
 rw [qbe] at ha0 hb0 ⊢
 rw [qbe]
 refine qA qe Tryz.func40 rfl Tryz.ntmps40 rfl (St.start w) ?_
 refine cne (fun h => ?_) (fun h => ?_)
 · refine rt ?_
   rw [decide_eq_false (by rintro rfl; exact h rfl)]; rfl
 · have hlen : a.length = b.length := by omega
   refine lp qe (fun i : Nat => i ≤ a.length ∧ a.take i = b.take i) (fun i => ⟨[(0, .slice aa a.length ca), (1, .slice ab b.length cb), (12, .int .i64 a.length), (13, .int .i64 i)], [], []⟩) (fun i => a.length - i) 0 ⟨Nat.zero_le _, rfl⟩ ⟨⟨rfl, rfl, rfl, rfl, trivial⟩, .nil, rfl⟩ ?_
   rintro i ⟨hi, hp⟩
   refine cd (fun h => ?_) (fun h => ?_)
   · have hia : i < a.length := by omega
     have hib : i < b.length := by omega
     obtain ⟨b1, o1, c1, e1, l1, r1⟩ := rd_at ha0 (by intro h; have := congrArg List.length h; rw [qbe] at this; simp only [List.length_nil] at this; omega)
     obtain ⟨b2, o2, c2, e2, l2, r2⟩ := rd_at hb0 (by intro h; have := congrArg List.length h; rw [qbe] at this; simp only [List.length_nil] at this; omega)
     injection e1 with f1 f2 f3
     injection e2 with g1 g2 g3
     subst f1 f3 g1 g3
     have r1 := r1 i _ (intC_at hia)
     have r2 := r2 i _ (intC_at hib)
     refine dr [] 99 (.t 0 (.t 1 (.t 2 (.t 3 (.t 4 (.t 5 (.t 6 (.t 7 (.t 8 .nil))))))))) qe qk (by kernel_rfl) .nil ?_
     refine ⟨by omega, by omega, ?_⟩
     refine ldo (v := .int .i64 a[i]) (by rw [qw, qu]; simpa using r1) l1 ?_
     refine ⟨by omega, by omega, ?_⟩
     refine ldo (v := .int .i64 b[i]) (by rw [qw, qu]; simpa using r2) l2 ?_
     refine cne (fun hne => ?_) (fun he => ?_)
     · refine rt ?_
       rw [decide_eq_false (take_ne a b i hia hib hp hne)]; rfl
     · refine .as ((i + 1 : Nat) : Int) (by simp) (by simp only [mn]; omega) (by simp only [mx]; omega) ?_
       refine ⟨i + 1, ⟨by omega, ?_⟩, by omega, ⟨⟨rfl, rfl, rfl, rfl, trivial⟩, .nil, rfl⟩⟩
       rw [List.take_succ_eq_append_getElem hia, List.take_succ_eq_append_getElem hib, hp, he]
   · obtain rfl : i = a.length := by omega
     have hab : a = b := by
      rw [List.take_length, hlen, List.take_length] at hp
      exact hp
     refine rt ?_
     rw [decide_eq_true hab]; rfl
def QR (x : UInt8) : Bs := x :: List.replicate 31 0
theorem undSs : Tryz.prog.underlying 22 = some (.slice 39) := by kernel_rfl
theorem infoSs : (Tryz.prog.info? 39).map (fun i => (i.zero, i.size, i.bytes)) = some (some (.agg Z32), 32, 32) := by kernel_rfl
theorem bsS1 (x : UInt8) (w : World) : (Instr.buildSlice 22 1 #[(0, Zi (QR x))]).run Tryz.prog w = .ok (.slice (some ⟨w.heap.size, 0, none⟩) 1 1) (w.alloc (.cells (Lib.byteCells (QR x)).toArray 39)) := by
 obtain ⟨i, hi, hz, hs, hb⟩ := QE infoSs
 exact run_buildSlice w _ _ 1 _ (Lib.byteCells (QR x)).toArray i (.agg Z32) undSs hi hz (by rw [hs]; decide) (by rw [hs]; decide) (by rw [hs]; kernel_rfl)
theorem undIs : Tryz.prog.underlying 54 = some (.slice 3) := by kernel_rfl
theorem infoIn : (Tryz.prog.info? 3).map (fun i => (i.zero, i.size, i.bytes)) = some (some (.int .i64 0), 1, 8) := by kernel_rfl
theorem bsI1 (x : Int) (w : World) : (Instr.buildSlice 54 1 #[(0, .int .i64 x)]).run Tryz.prog w = .ok (.slice (some ⟨w.heap.size, 0, none⟩) 1 1) (w.alloc (.cells #[.int .i64 x] 3)) := by
 obtain ⟨i, hi, hz, hs, hb⟩ := QE infoIn
 exact run_buildSlice w _ _ 1 _ #[.int .i64 x] i (.int .i64 0) undIs hi hz (by rw [hs]; decide) (by rw [hs]; decide) (by rw [hs]; kernel_rfl)
def exH (x : UInt8) : Hd := sgnH Q9 (hd0 (QR x) 1 0) [49] [48]
theorem exH_ok (x : UInt8) : HdOk (exH x) := ⟨by show (QR x).length = 32; simp [QR], Z8 _ _⟩
theorem rhead_ex (x : UInt8) (b c : Nat) (t : TypeId) (w : World) (hw : w.heap[b]? = some (.cells (Lib.byteCells (QR x)).toArray t (0, 0))) :
 Calls Tryz.prog 20 ([.slice (some ⟨b, 0, none⟩) 1 c, .int .i64 0] : List Value).toArray w fun e w' => e = .returned (.agg (hdC (exH x))) ∧ Below w.heap.size w w' :=
 rhead_core _ (QR x) 1 0 [49] [48] (by simp [QR]) w (by decide) (by decide)
  (fun w' hb => rroot1_any b c (QR x) (by simp [QR]) t w' ((hb.block b (Array.getElem?_eq_some_iff.1 hw).1).trans hw)) ⟨_, _, rfl⟩ (fun w' _ => rnum_fig 1 (by decide) w') (fun w' _ => rnum_fig 0 (by decide) w')
theorem qdB : Ze logB := fun w => qdi logB (by decide) (by decide) (by decide) w
theorem pubN_lt (n : Nat) : zo n < 115792089237316195423570985008687907853269984665640564039457584007913129639936 := by unfold zo; exact keyP_lt _
theorem nbody_sig (h : Hd) (s N : Bs) : Qi { h with sig := s } N = Qi h N := rfl
theorem sgn_body (n : Nat) (h : Hd) (A T N : Bs) : Qi (sgnH n h A T) N = Qi h N := nbody_sig h _ N
theorem sgn_right (n : Nat) (h : Hd) (A T : Bs) : qbx (zo n) (sgnH n h A T).sig (Qi (sgnH n h A T) (A ++ [32] ++ T)) = true := by
 rw [sgn_body, qdO]
 exact right_sig n (zz h A T)
theorem sgn_rightC (n : Nat) (h : Hd) (A T : Bs) (S : AuS) (hr : h.root.length = 32) (hl : h.o.length ≤ 1000) (hn : Ze h.o) (h0 : 0 ≤ h.size) (h1 : h.size ≤ 1048576) (h2 : 0 ≤ h.time) (h3 : h.time ≤ 9007199254740991) (hAl : A.length ≤ 100) (hTl : T.length ≤ 100) (hp : S.p = zo n) (ho : S.o = h.o) (w : World)
 (hA : ∀ w', Below w.heap.size w w' → Calls Tryz.prog 116 ([.int .i64 h.size] : List Value).toArray w' fun e w'' => e = .returned (VS A) ∧ Below w'.heap.size w' w'')
 (hT : ∀ w', Below w.heap.size w w' → Calls Tryz.prog 116 ([.int .i64 h.time] : List Value).toArray w' fun e w'' => e = .returned (VS T) ∧ Below w'.heap.size w' w'') : qbL S (sgnH n h A T) 0 w := fun w' hb => by
 rw [hp, ho]
 exact nright_any (sgnH n h A T) A T (zo n) (pubN_lt n) hr (Z8 _ _) hl hn h0 h1 h2 h3 hAl hTl w' (fun w'' hb' => hA w'' (hb.trans (hb'.mono hb.size))) (fun w'' hb' => hT w'' (hb.trans (hb'.mono hb.size))) (sgn_right n h A T)
theorem ex_right (x : UInt8) (S : AuS) (hp : S.p = zo Q9) (ho : S.o = logB) (w : World) : qbL S (exH x) 0 w :=
 sgn_rightC Q9 (hd0 (QR x) 1 0) [49] [48] S (by show (QR x).length = 32; simp [QR]) (by show logB.length ≤ 1000; decide) qdB (by show (0 : Int) ≤ 1; decide) (by show (1 : Int) ≤ 1048576; decide) (by show (0 : Int) ≤ 0; decide) (by show (0 : Int) ≤ 9007199254740991; decide) (by decide) (by decide) hp ho w (fun w'' _ => itoa_fig 1 (by decide) w'') (fun w'' _ => itoa_fig 0 (by decide) w'')
theorem leaf_ne : QR 1 ≠ QR 2 := by decide
theorem ex_grows (w : World) : Calls Tryz.prog 48 ([.int .i64 (exH 1).size, Zi (exH 1).root, .int .i64 (exH 2).size, Zi (exH 2).root, .slice none 0 0] : List Value).toArray w fun e w' => e = .returned (.bool false) ∧ Below w.heap.size w w' := by
 have h := grows_eq 1 (by decide) (QR 1) (QR 2) (by decide) (by decide) none 0 0 w
 rw [decide_eq_false leaf_ne] at h
 exact h
theorem alive_any (w : World) : Calls Tryz.prog 9 ([] : List Value).toArray w fun e w' => e = .returned (.bool true) ∧ Below w.heap.size w w' := by
 refine qA qe Tryz.func9 rfl Tryz.ntmps9 rfl (St.start w) ?_
 refine cv seed_any ?_
 refine cv (qbQ Q9) ?_
 refine cM (r' := fun x : Nat × Nat => auR (au0 (zo Q9) logB x)) (fun w' hs => (auNew_any (zo Q9) logB (by decide) qdB w').mono fun e w'' ⟨x, h0, h1, h2, h3, h4, h5⟩ => ⟨x, h0, h1, h2, h3, h4, fun k hk => (h5 k hk).elim⟩) (fun x _ => ?_)
 iterate 2 refine ct rfl ?_
 iterate 2 refine cf rfl ?_
 refine bu (c := (Lib.byteCells (QR 1)).toArray) (by kernel_rfl) ?_
 refine .mk (Lib.byteCells (QR 1)).toArray 39 (fun w => bsS1 1 w) (fun bn => ?_)
 refine cvs (fun w' hs => rhead_ex 1 bn 1 _ w' (hs.nth (k := 1) rfl)) ?_
 refine cT 0 (α := Nat) (Φ := fun _ => True) (v := fun _ => .nilIface) (r' := fun b => auR ((au0 (zo Q9) logB x).put (exH 1) b)) rfl (fun w' hs => (take_one (au0 (zo Q9) logB x) (exH 1) none 0 0 0 rfl (exH_ok 1) w' (hs.res (k := 0) rfl) (ex_right 1 (au0 (zo Q9) logB x) rfl rfl w') rfl rfl (by show (0 : Int) ≤ 1 ∧ (1 : Int) ≤ 1048576; decide)).mono fun e w'' ⟨h1, b, h2⟩ => ⟨b, trivial, h1, h2⟩) (fun b1 _ => ?_)
 refine bu (c := (Lib.byteCells (QR 2)).toArray) (by kernel_rfl) ?_
 refine .mk (Lib.byteCells (QR 2)).toArray 39 (fun w => bsS1 2 w) (fun bn2 => ?_)
 refine cvs (fun w' hs => rhead_ex 2 bn2 1 _ w' (hs.nth (k := 2) rfl)) ?_
 refine cT 0 (α := Unit) (Φ := fun _ => True) (v := fun _ => qcZ 13) (r' := fun _ => auR ((au0 (zo Q9) logB x).put (exH 1) b1)) rfl (fun w' hs => (take_proof ((au0 (zo Q9) logB x).put (exH 1) b1) (exH 2) none 0 0 0 (exH 1) rfl (exH_ok 2) w' (hs.res (k := 0) rfl) (ex_right 2 ((au0 (zo Q9) logB x).put (exH 1) b1) rfl rfl w') rfl (by show (1 : Int) ≤ 1; decide) (by show (0 : Int) ≤ 0; decide) (fun w'' _ => ex_grows w'')).mono fun e w'' ⟨h1, h2⟩ => ⟨(), trivial, h1, h2⟩) (fun _ _ => ?_)
 iterate 2 refine ct rfl ?_
 refine cv (Zt 13 13) ?_
 iterate 3 refine ct rfl ?_
 refine coV (n := 1) (z := 1) (xs := qbf [1]) (e := 3) id (fun w' hs => sizes_any ((au0 (zo Q9) logB x).put (exH 1) b1) w' (hs.res (k := 0) rfl) (by show 1 ≤ 1000000; decide)) (fun r hR => ?_)
 refine ct rfl ?_
 refine .mk #[.int .i64 1] 3 (fun w => bsI1 1 w) (fun bi => ?_)
 refine ct rfl ?_
 refine cvs (v := .bool true) (fun w' hs => ints_any _ _ [1] [1] w' (Rd.own hs 3 rfl hR) (Rd.ent hs 4 (n := 1) rfl rfl rfl) (by decide)) ?_
 refine ct rfl ?_
 exact rt rfl
end
section
open Go.RowKit Go.Sx
theorem root_nil (k : Int) (w : World) : Calls Tryz.prog 16 ([.pointer none, .int .i64 k] : List Value).toArray w fun e w' => e = .returned (.tuple #[.agg Z32, ErrN 12]) ∧ Below w.heap.size w w' := by
 refine qA qe Tryz.func16 rfl Tryz.ntmps16 rfl (St.start w) ?_
 intro b4
 refine ct rfl ?_
 refine bu (c := Z32) (by kernel_rfl) ?_
 refine sN 0 rfl rfl rfl ?_ (by kernel_rfl)
 refine ldN 0 rfl rfl ?_
 exact rt rfl
theorem last_nil (w : World) : Calls Tryz.prog 14 ([.pointer none] : List Value).toArray w fun e w' => e = .returned (lastT none) ∧ Below w.heap.size w w' := by
 refine qA qe Tryz.func14 rfl Tryz.ntmps14 rfl (St.start w) ?_
 intro b2
 iterate 5 refine cf rfl ?_
 iterate 2 refine ct rfl ?_
 refine bu (c := hdC H0) (by kernel_rfl) ?_
 refine sN 0 rfl rfl (qcT _) ?_ (by kernel_rfl)
 refine ldN 0 rfl rfl ?_
 exact rt rfl
theorem take_nil (h : Array Value) (p : Value) (w : World) : Calls Tryz.prog 15 ([.pointer none, .agg h, p] : List Value).toArray w fun e w' => e = .returned (ErrN 12) ∧ Below w.heap.size w w' := by
 refine qA qe Tryz.func15 rfl Tryz.ntmps15 rfl (St.start w) ?_
 intro b4
 refine ct rfl ?_
 exact rt rfl
theorem receipt_nil (h : Array Value) (p : Value) (w : World) : Calls Tryz.prog 23 ([.pointer none, .agg h, p] : List Value).toArray w fun e w' => e = .returned (ErrN 12) ∧ Below w.heap.size w w' := by
 refine qA qe Tryz.func23 rfl Tryz.ntmps23 rfl (St.start w) ?_
 intro b4
 refine ct rfl ?_
 exact rt rfl
theorem holds_nil (t : Value) (i : Int) (p : Value) (w : World) : Calls Tryz.prog 21 ([.pointer none, t, .int .i64 i, p] : List Value).toArray w fun e w' => e = .returned (ErrN 12) ∧ Below w.heap.size w w' := by
 refine qA qe Tryz.func21 rfl Tryz.ntmps21 rfl (St.start w) ?_
 refine cv last_nil ?_
 intro b9
 refine sN 0 rfl rfl (qcT _) ?_ (by kernel_rfl)
 refine ct rfl ?_
 exact rt rfl
theorem sizes_nil (w : World) : Calls Tryz.prog 17 ([.pointer none] : List Value).toArray w fun e w' => e = .returned (.slice none 0 0) ∧ Below w.heap.size w w' := by
 refine qA qe Tryz.func17 rfl Tryz.ntmps17 rfl (St.start w) ?_
 refine ct rfl ?_
 exact rt rfl
def rcZ : Array Value := ((hdC H0).toList ++ (Value.int .i64 0 :: (List.replicate 32 (Value.int .u8 0) ++ [Value.slice none 0 0]))).toArray
theorem law_none (a : Option Addr) (l c : Nat) (i : Int) (w : World) : Calls Tryz.prog 7 ([.slice a l c, .int .i64 i] : List Value).toArray w fun e w' => e = .returned (.bool true) ∧ Below w.heap.size w w' := by
 refine qA qe Tryz.func7 rfl Tryz.ntmps7 rfl (St.start w) ?_
 refine cv alive_any ?_
 refine cf rfl ?_
 refine cv (root_nil i) ?_
 intro b6
 refine sN 0 rfl rfl rfl ?_ (by kernel_rfl)
 refine cv last_nil ?_
 intro b8
 refine sN 1 rfl rfl (qcT _) ?_ (by kernel_rfl)
 refine bu (c := hdC H0) (by kernel_rfl) ?_
 refine cv (take_nil _ _) ?_
 refine cv (Zt 12 12) ?_
 iterate 4 refine ct rfl ?_
 refine cv (holds_nil _ _ _) ?_
 refine ct rfl ?_
 refine cv (Zt 12 12) ?_
 iterate 3 refine ct rfl ?_
 refine bu (c := rcZ) (by kernel_rfl) ?_
 refine ct rfl ?_
 refine cv (receipt_nil _ _) ?_
 refine ct rfl ?_
 refine cv (Zt 12 12) ?_
 iterate 3 refine ct rfl ?_
 refine cv (Zt 12 12) ?_
 iterate 6 refine ct rfl ?_
 refine cv sizes_nil ?_
 iterate 3 refine ct rfl ?_
 exact rt rfl
end
section
open Go.ChangeShapes Go.WideShapes Go.ChangeAt Go.RowKit Go.Sx
theorem own : ownKnob Tryz.prog.godebug = none := by kernel_rfl
theorem laidOut : laidOutB Tryz.prog = true := by kernel_rfl
theorem cellsU8 : Tryz.prog.cellsOf 5 = 1 := by kernel_rfl
theorem bytes_of (f : Nat → Int) (n : Nat) (h : ∀ i, i < n → 0 ≤ f i ∧ f i < 256) : ∃ bs : List UInt8, bs.length = n ∧ ∀ i, i < n → (Lib.byteCells bs)[i]? = some (.int .u8 (f i)) := by
 refine ⟨(List.range n).map fun i => UInt8.ofNat (f i).toNat, by simp, fun i hi => ?_⟩
 have := h i hi
 simp [Lib.byteCells, hi]
 omega
theorem open_rd {H : Type} {enc : TypeId × Value → H} {w : World} {base : Nat} {spare : Nat → Bool} {held : Bool} {r : Reach} {b0 : Nat} {v : Value} {d : DataW H} {p : List MemPlace}
 (hv : Value.okWide Tryz.prog w r b0 48 v) (h : DataW.Trod enc Tryz.prog w base spare held 48 v d p) : ∃ a bs c, v = .slice a bs.length c ∧ bs.length ≤ c ∧ c ≤ maxLen ∧ (∀ x, a = some x → x.spot = none) ∧ Rd w v (Lib.byteCells bs) := by
 obtain ⟨a0, len, cap, rfl⟩ := okWide_slice Tryz.underlying48 hv
 obtain ⟨fuel, hf⟩ := h
 rcases open_ints Tryz.underlying48 Tryz.underlying5 cellsU8 hf with ⟨hcs, hx⟩ | ⟨a, len', cap', zs, hcs, _, hl, hm, hz, hx, hcell, hwz⟩
 · have e : Value.slice a0 len cap = .slice none 0 0 := by simpa [Value.cells] using hcs
   injection e with e1 e2 e3
   subst e1 e2 e3
   exact ⟨none, [], 0, rfl, Nat.le_refl _, Nat.zero_le _, by simp, none, 0, rfl, fun h => absurd rfl h⟩
 · have e : Value.slice a0 len cap = .slice (some a) len' cap' := by simpa [Value.cells] using hcs
   injection e with e1 e2 e3
   subst e1 e2 e3
   have hlz : len ≤ zs.length := by rw [hz]; split <;> omega
   obtain ⟨bs, hbs, hd⟩ := bytes_of (fun i => zs.getD i 0) len (fun i hi => by
    have hmem : zs.getD i 0 ∈ zs := by
     have : zs.getD i 0 = zs[i]'(by omega) := by simp [List.getD, show i < zs.length by omega]
     rw [this]; exact List.getElem_mem _
    have := bounds_u8 (hwz _ hmem)
    omega)
   have hsp : a.spot = none := by
    have h := hv
    simp only [Value.okWide, Tryz.underlying48, Cell.okWide, Cell.ok, World.has] at h
    exact h.2.2.2.1
   refine ⟨some a, bs, cap, by rw [hbs], by omega, hm, by rintro x hx; obtain rfl := Option.some.inj hx; exact hsp, some a, cap, by rw [Lib.byteCells_length, hbs], fun hne => ?_⟩
   obtain ⟨b, o, sp⟩ := a
   obtain rfl : sp = none := hsp
   have hpos : 0 < len := by
    rcases Nat.eq_zero_or_pos len with h0 | h0
    · rw [h0] at hbs; rw [List.eq_nil_of_length_eq_zero hbs] at hne; exact absurd rfl hne
    · exact h0
   refine ⟨b, o, rfl, ?_, fun j u hu => ?_⟩
   · have := hcell 0 (by omega); exact World.block_lt_of_cell? w _ this
   · have hj : j < len := by have := (List.getElem?_eq_some_iff.1 hu).1; rw [Lib.byteCells_length] at this; omega
     rw [hd j hj] at hu
     rw [← QC, hcell j (by omega)]; exact hu
end
section
theorem jLaid : laidOutB Tryz.prog = true := by kernel_rfl
theorem jMaps : mapsRowed Tryz.prog = true := by kernel_rfl
theorem jStops : Tryz.prog.stopsHeard = true := by kernel_rfl
theorem jMay : Tryz.prog.mayEnter = true := by kernel_rfl
end
end Go.Proofs.YtbgefoamhdgnaaaGreatDoor
