/- Symbolic steps, eleventh part: maps are made, cut down, gone through. -/
import Derived.Test.YtpegkoklmhccjaaDoorSxK
namespace Go.Sx
open Go Go.RowKit
set_option linter.unusedVariables false
variable {C : Cx} {L : List Ent}
section maps
variable {κ : Type} {ke : κ → Value}
/-- delete(m, k) -/
theorem dlt [DecidableEq κ] (i : Nat) {t kt et t1 ty : TypeId} {cs : Array Bool} {b clk : Nat} {fs : Es κ} {k : κ} {next : Value → List Ent → Prop} (hi : L[i]? = some (me b ke fs clk)) (ht : C.P.underlying t = some (.map kt et)) (hK : KeyOk C.P kt ke)
    (go : next (.tuple #[]) (L.set i (me b ke (delS k fs) clk))) : BiP C .delete #[t, t1] ty cs [.map (some b), ke k] L next := by
  refine ⟨fun w hs => ?_⟩
  have hg := hs.nth hi
  have hf := hK.find k fs w
  have key : (Builtin.delete_ #[t, t1] ty #[.map (some b), ke k]).run C.P w = .ok (.tuple #[]) (w.putObj b (mapO ke (delS k fs) clk)) := by
    have e0 : #[Value.map (some b), ke k][0]? = some (.map (some b)) := rfl
    have e1 : #[Value.map (some b), ke k][1]? = some (ke k) := rfl
    have e2 : #[t, t1][0]? = some t := rfl
    simp only [Builtin.delete_, e0, e1, e2, Sem.run_bind, run_underlying ht, Result.andThen_ok, run_getObj hg (by simp [mapO]), mapO, hK.check, hf]
    cases h : findS k fs 0 with
    | none =>
      simp only [del_none h, Sem.run_bind]
      rw [run_setObj hg (by simp [mapO])]; simp
    | some p =>
      obtain ⟨j, u⟩ := p
      obtain ⟨n, hn⟩ := findS_some h
      have hj : j < fs.length := (List.getElem?_eq_some_iff.1 hn).1
      simp only [del_found h, Sem.run_bind]
      rw [run_setObj hg (by simp [mapO])]
      simp only [Result.andThen_ok, Sem.run_pure]
      congr 2
      congr 1
      apply Array.ext'
      simp [Array.eraseIdxIfInBounds, hj]
      apply List.ext_getElem?
      intro m
      simp only [List.getElem?_eraseIdx, List.getElem?_map]
      split <;> rfl
  show Fin C next ((builtin .delete #[t, t1] ty cs #[.map (some b), ke k]).run C.P w)
  have e : (builtin .delete #[t, t1] ty cs #[.map (some b), ke k]).run C.P w = .ok (.value (.tuple #[])) (w.putObj b (mapO ke (delS k fs) clk)) := by simp [builtin, key]
  rw [e]
  exact ⟨_, hs.put hi, go⟩
/-- make(map[K]V) -/
theorem mkm {t : TypeId} {next : Value → List Ent → Prop} (ke : κ → Value) (go : ∀ b, next (.map (some b)) (L ++ [me b ke [] 0])) : SemP C (Instr.makeMap t none) L next :=
  ⟨fun w hs => ⟨_, _, _, by simp only [Instr.makeMap, Sem.run_bind, run_newObj_alloc, Result.andThen_ok, Sem.run_pure], hs.alloc (.map #[] 0), go _⟩⟩
/-- len(m) -/
abbrev itE (b : Nat) (m clk : Nat) (seen : List Nat) : Ent := ⟨b, some (.mapIter (some m) clk seen.toArray clk), false, none⟩
/-- for .. := range m -/
theorem rng (i : Nat) {t kt et : TypeId} {b clk : Nat} {fs : Es κ} {ro : Bool} {next : Value → List Ent → Prop} (hi : L[i]? = some ⟨b, some (mapO ke fs clk), ro, none⟩) (ht : C.P.underlying t = some (.map kt et))
    (go : ∀ b', next (.pointer (some ⟨b', 0, none⟩)) (L ++ [itE b' b clk []])) : SemP C (Instr.range t (.map (some b))) L next := by
  refine ⟨fun w hs => ⟨_, _, _, ?_, hs.alloc (.mapIter (some b) clk #[] clk), go _⟩⟩
  have hg := hs.nth hi
  simp only [Instr.range, Sem.run_bind, run_underlying ht, Result.andThen_ok, run_getObj hg (by simp [mapO]), mapO, Sem.run_pure, run_newObj_alloc]
theorem St.drew2 {M : Bks} {B w : World} (h : St M B w L) (n : Nat) : St M B { w with drawn := n } L := ⟨h.os, h.tape, h.output, h.size, h.old, fun e he => (h.ok e he).same fun k hk => rfl, h.ownW, h.apart⟩
/-- the next entry -/
theorem nxt (i j : Nat) {ty : TypeId} {b it clk : Nat} {fs : Es κ} {ro : Bool} {seen : List Nat} {next : Value → List Ent → Prop} (hi : L[i]? = some ⟨b, some (mapO ke fs clk), ro, none⟩) (hj : L[j]? = some (itE it b clk seen)) (hb : ∀ e ∈ fs, e.2.2 < clk)
    (g0 : (∀ e ∈ fs, e.2.2 ∈ seen) → next (.tuple #[.bool false]) L) (g1 : ∀ e ∈ fs, e.2.2 ∉ seen → next (.tuple #[.bool true, ke e.1, e.2.1]) (L.set j (itE it b clk (seen ++ [e.2.2])))) :
    SemP C (Instr.next (.pointer (some ⟨it, 0, none⟩)) false ty) L next := by
  refine ⟨fun w hs => ?_⟩
  have hg := hs.nth hi
  have hg2 := hs.nth hj
  have hok : (!seen.toArray.isEmpty && !(fs.map (entS ke)).toArray.isEmpty && (fs.map (entS ke)).toArray.all (·.born ≥ clk)) = false := by
    cases fs with
    | nil => simp
    | cons e l =>
      have := hb e (by simp)
      simp [entS]
      intro _ h
      omega
  have hold : ((fs.map (entS ke)).toArray.filter fun e => !seen.toArray.contains e.born).filter (·.born < clk) = ((fs.filter fun e => !seen.contains e.2.2).map (entS ke)).toArray := by
    apply Array.ext'
    simp only [Array.toList_filter, List.filter_map, List.filter_filter]
    congr 1
    apply List.filter_congr
    intro e he
    have := hb e he
    simp only [Function.comp_apply, entS]
    simp
    intro _
    exact decide_eq_true this
  have hnew : ((fs.map (entS ke)).toArray.filter fun e => !seen.toArray.contains e.born).filter (·.born ≥ clk) = #[] := by
    apply Array.ext'
    simp only [Array.toList_filter, List.filter_map, List.filter_filter]
    have : (fs.filter fun e => ((fun e : MapEntry => decide (e.born ≥ clk)) ∘ entS ke) e && ((fun e : MapEntry => !seen.toArray.contains e.born) ∘ entS ke) e) = [] := by
      rw [List.filter_eq_nil_iff]
      intro e he
      have := hb e he
      have h1 : decide ((entS ke e).born ≥ clk) = false := decide_eq_false (by show ¬ e.2.2 ≥ clk; omega)
      simp only [Function.comp_apply, h1, Bool.false_and]
      decide
    rw [this]; rfl
  simp only [Instr.next, Sem.run_bind, run_getObj hg2 (by simp), Result.andThen_ok, run_getObj hg (by simp [mapO]), mapO, hok, Bool.false_eq_true, if_false, hold, hnew]
  generalize hl : (fs.filter fun e => !seen.contains e.2.2) = left
  have hmem : ∀ e, e ∈ left ↔ e ∈ fs ∧ e.2.2 ∉ seen := by intro e; rw [← hl]; simp
  cases left with
  | nil =>
    refine ⟨_, w, L, ?_, hs, g0 fun e he => ?_⟩
    · simp [Question.forced]
    · by_cases h : e.2.2 ∈ seen
      · exact h
      · have := (hmem e).2 ⟨he, h⟩; cases this
  | cons e0 l =>
    have hne : ((e0 :: l).map (entS ke)).toArray.isEmpty = false := by simp
    simp only [hne, Bool.false_eq_true, if_false, Array.append_empty]
    have key : ∃ n, n < (e0 :: l).length ∧ ∃ w1, St C.M C.B w1 L ∧ w1.heap = w.heap ∧ (choose (.mapNext (Array.map some ((e0 :: l).map (entS ke)).toArray).size)).run C.P w = .ok n w1 := by
      have hsz : (Array.map some ((e0 :: l).map (entS ke)).toArray).size = (e0 :: l).length := by simp
      rw [hsz]
      rw [run_choose]
      split
      · exact ⟨0, by simp, w, hs, rfl, rfl⟩
      · exact ⟨(Question.mapNext (e0 :: l).length).cut (w.tape w.drawn (Question.mapNext (e0 :: l).length)), Nat.mod_lt _ (by simp), _, hs.drew2 (w.drawn + 1), rfl, rfl⟩
    obtain ⟨n, hn, w1, hs1, hh, hr⟩ := key
    have hget : (Array.map some ((e0 :: l).map (entS ke)).toArray)[n]? = some (some (entS ke ((e0 :: l)[n]))) := by
      rw [Array.getElem?_map]
      simp only [List.getElem?_toArray, List.getElem?_map, List.getElem?_eq_getElem hn, Option.map_some]
    have he := (hmem ((e0 :: l)[n])).1 (List.getElem_mem hn)
    refine ⟨_, _, _, ?_, hs1.put hj, g1 ((e0 :: l)[n]) he.1 he.2⟩
    have hg3 := hs1.nth hj
    simp only [Array.empty_append] at hr ⊢
    simp only [Sem.run_bind, hr, Result.andThen_ok, hget]
    rw [run_setObj hg3 (by simp)]
    simp [entS]
/-- the entry at hand -/
theorem ent (i j : Nat) {b it clk : Nat} {fs : Es κ} {ro : Bool} {seen : List Nat} {e : κ × Value × Nat} {next : Value → List Ent → Prop} (hi : L[i]? = some ⟨b, some (mapO ke fs clk), ro, none⟩) (hj : L[j]? = some (itE it b clk (seen ++ [e.2.2])))
    (he : e ∈ fs) (hn : (fs.map (·.2.2)).Nodup) (go : next (.tuple #[ke e.1, e.2.1]) L) : SemP C (Instr.entry (.pointer (some ⟨it, 0, none⟩))) L next := by
  refine ⟨fun w hs => ⟨_, w, L, ?_, hs, go⟩⟩
  have hg := hs.nth hi
  have hg2 := hs.nth hj
  have hfind : (fs.map (entS ke)).toArray.find? (fun x => x.born == e.2.2) = some (entS ke e) := by
    simp only [List.find?_toArray, List.find?_map]
    have : ∀ (l : Es κ), (l.map (·.2.2)).Nodup → e ∈ l → l.find? ((fun x : MapEntry => x.born == e.2.2) ∘ entS ke) = some e := by
      intro l hl hm
      induction l with
      | nil => cases hm
      | cons f l ih =>
        simp only [List.map_cons, List.nodup_cons] at hl
        by_cases hf : f = e
        · subst hf; simp [entS]
        · have hm' : e ∈ l := by
            rcases List.mem_cons.1 hm with h | h
            · exact absurd h.symm hf
            · exact h
          have hne : f.2.2 ≠ e.2.2 := fun h => hl.1 (h ▸ List.mem_map_of_mem hm')
          rw [List.find?_cons_of_neg (by simpa [entS] using hne)]
          exact ih hl.2 hm'
    rw [this fs hn he]; rfl
  have hbk : (seen ++ [e.2.2]).toArray.back? = some e.2.2 := by simp [Array.back?]
  simp only [Instr.entry, Sem.run_bind, run_getObj hg2 (by simp), Result.andThen_ok, hbk]
  simp only [run_getObj hg (by simp [mapO]), mapO, Result.andThen_ok, bne_self_eq_false, Bool.false_eq_true, if_false, hfind, entS, Sem.run_pure]
end maps
end Go.Sx
