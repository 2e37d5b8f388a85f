/- The disk: Crash. -/
import Derived.Test.YtdgkaboaapfnmaaDkG
namespace Go.Proofs.Ytdgkaboaapfnmaa
open Go.RowKit Go.Sx
set_option linter.unusedVariables false

theorem permMore {τ : Type} (b : τ → Nat) {es i rest : List τ} {e : τ} (hp : (i ++ rest).Perm es) (he : e ∈ es) (hn : b e ∉ i.map b) : ∃ rest', (i ++ [e] ++ rest').Perm es := by
  have h1 : e ∈ i ++ rest := hp.mem_iff.2 he
  rcases List.mem_append.1 h1 with h | h
  · exact absurd (List.mem_map_of_mem h) hn
  · obtain ⟨l1, l2, rfl⟩ := List.append_of_mem h
    refine ⟨l1 ++ l2, List.Perm.trans ?_ hp⟩
    rw [List.append_assoc]
    exact (List.perm_middle (a := e) (l₁ := l1) (l₂ := l2)).symm.append_left i
def crashF (keep : Int) (f : Fe) : Fe := ⟨f.name, f.bs.take (f.sure + min keep.toNat (f.bs.length - f.sure)), f.sure + min keep.toNat (f.bs.length - f.sure)⟩
def crashD (D : Dk) (keep : Int) : Dk := { D with gone := false, armed := false, files := D.files.map (crashF keep) }
/-- those that were visited are crashed -/
def crashV (keep : Int) (vs : List (List UInt8 × Nat)) (f : Fe) : Fe := if f.name ∈ vs.map (·.1) then crashF keep f else f
theorem crashV_name (keep : Int) (vs : List (List UInt8 × Nat)) (f : Fe) : (crashV keep vs f).name = f.name := by unfold crashV; split <;> rfl
theorem setF_map {keep : Int} {vs : List (List UInt8 × Nat)} {fs : List Fe} {f : Fe} {n : Nat} (hf : f ∈ fs) (hn : (fs.map (·.name)).Nodup) (hv : f.name ∉ vs.map (·.1)) :
    setF (crashF keep f) (fs.map (crashV keep vs)) = fs.map (crashV keep (vs ++ [(f.name, n)])) := by
  have other : ∀ g : Fe, g.name ≠ f.name → crashV keep (vs ++ [(f.name, n)]) g = crashV keep vs g := fun g hg => by
    have : g.name ∈ (vs ++ [(f.name, n)]).map (·.1) ↔ g.name ∈ vs.map (·.1) := by rw [List.map_append, List.mem_append]; simp [hg]
    simp only [crashV, this]
  have own : crashV keep (vs ++ [(f.name, n)]) f = crashF keep f := by simp [crashV]
  induction fs with
  | nil => cases hf
  | cons g l ih =>
    simp only [List.map_cons, List.nodup_cons] at hn
    rw [List.map_cons]
    show (if (crashF keep f).name = (crashV keep vs g).name then crashF keep f :: l.map (crashV keep vs) else crashV keep vs g :: setF (crashF keep f) (l.map (crashV keep vs))) = _
    rw [crashV_name]
    by_cases h : f.name = g.name
    · have hl : ∀ k ∈ l, k.name ≠ f.name := fun k hk e => hn.1 (by rw [← h, ← e]; exact List.mem_map_of_mem hk)
      have hfg : f = g := by
        rcases List.mem_cons.1 hf with h1 | h1
        · exact h1
        · exact absurd rfl (hl f h1)
      subst hfg
      rw [if_pos (show (crashF keep f).name = f.name from rfl), List.map_cons, own]
      congr 1
      exact List.map_congr_left fun k hk => (other k (hl k hk)).symm
    · have hf' : f ∈ l := by
        rcases List.mem_cons.1 hf with h1 | h1
        · exact absurd (by rw [h1]) h
        · exact h1
      rw [if_neg (show ¬ (crashF keep f).name = g.name from h), List.map_cons, ih hf' hn.2, other g (fun e => h e.symm)]
theorem setS_kb {κ : Type} [DecidableEq κ] (k : κ) (v : Value) (clk : Nat) (es : Es κ) (h : (getS k es).isSome = true) : (setS k v clk es).map (fun e => (e.1, e.2.2)) = es.map (fun e => (e.1, e.2.2)) := by
  induction es with
  | nil => cases h
  | cons e l ih =>
    rw [getS_cons] at h
    unfold setS
    by_cases hk : k = e.1
    · simp [hk]
    · rw [if_neg hk] at h
      simp [hk, ih h]
theorem getS_of_mem {κ : Type} [DecidableEq κ] {es : Es κ} {e : κ × Value × Nat} (he : e ∈ es) (hn : (es.map (·.1)).Nodup) : getS e.1 es = some e.2.1 := by
  induction es with
  | nil => cases he
  | cons f l ih =>
    simp only [List.map_cons, List.nodup_cons] at hn
    rw [getS_cons]
    rcases List.mem_cons.1 he with rfl | h
    · rw [if_pos rfl]
    · rw [if_neg (fun e1 : e.1 = f.1 => hn.1 (e1 ▸ List.mem_map_of_mem (f := fun q : κ × Value × Nat => q.1) h)), ih h hn.2]
theorem all2_names {rr : Nat → Prop} {u : World} {es : Es (List UInt8)} {fs : List Fe} (h : All2 (EF rr u) es fs) : es.map (·.1) = fs.map (·.name) := by
  induction h with
  | nil => rfl
  | cons h1 _ ih => simp only [List.map_cons, ih, h1.1]
set_option maxRecDepth 100000 in
set_option maxHeartbeats 1000000 in
theorem crash_any (S : DkS) (keep : Int) (hkeep : -9223372036854775808 ≤ keep ∧ keep ≤ 9223372036854775807) (w : World) (h : DkP S w) : Calls Try.prog 17 ([ptr S.bd, .int .i64 keep] : List Value).toArray w fun e w' => ∃ S' : DkS, (S'.D = crashD S.D keep ∧ S'.bd = S.bd ∧ S'.bm = S.bm) ∧ e = .returned (.tuple #[]) ∧ Turns w w' (dkR S) (dkR S') := by
  refine (enter tab_ok Try.func17 rfl Try.ntmps17 rfl (dk_rw h) (R := fun v w' => ∃ S' : DkS, (S'.D = crashD S.D keep ∧ S'.bd = S.bd ∧ S'.bm = S.bm) ∧ v = .tuple #[] ∧ Turns w w' (dkR S) (dkR S')) ?_).mono (fun e w' ⟨v, he, S', h1, h2, h3⟩ => ⟨S', h1, by rw [he, h2], h3⟩)
  refine cf rfl ?_
  refine ld1 0 rfl (v := .map (some S.bm)) rfl ?_
  refine rng 1 rfl undM (fun it => ?_)
  obtain ⟨P0, hP0⟩ : ∃ P0, P0 = S.es.map fun e => (e.1, e.2.2) := ⟨_, rfl⟩
  have hfn := all2_names h.f.all
  have hb0 : P0.map (·.2) = S.es.map (·.2.2) := by rw [hP0, List.map_map]; rfl
  have hn0 : P0.map (·.1) = S.D.files.map (·.name) := by rw [hP0, List.map_map, ← hfn]; rfl
  refine lp tab_ok (fun x : List (List UInt8 × Nat) × Es (List UInt8) => (∃ rest, (x.1 ++ rest).Perm P0) ∧ x.2.map (fun e => (e.1, e.2.2)) = P0 ∧ FilesOk S.rr w x.2 S.clk (S.D.files.map (crashV keep x.1)))
    (fun x => ⟨[(0, ptr S.bd), (1, .int .i64 keep), (13, ptr it)], [cl S.bd (dkC S.D S.bm) TD, me S.bm keS x.2 S.clk, itE it S.bm S.clk (x.1.map (·.2))], []⟩) (fun x => P0.length - x.1.length) ([], S.es)
    ⟨⟨P0, by simp⟩, hP0.symm, by have : crashV keep [] = id := by funext f; simp [crashV]
                                 rw [this, List.map_id]; exact h.f⟩ ⟨⟨rfl, rfl, rfl, trivial⟩, .cons (.cons (.cons .nil)), rfl⟩ ?_
  rintro ⟨vs, es⟩ ⟨⟨rest, hp⟩, hkb, hF⟩
  simp only at hp hkb hF
  have hborn : es.map (·.2.2) = P0.map (·.2) := by rw [← hkb, List.map_map]; rfl
  have hkeys : es.map (·.1) = P0.map (·.1) := by rw [← hkb, List.map_map]; rfl
  have hnbP : (P0.map (·.2)).Nodup := by rw [hb0]; exact h.f.nb
  have hnnP : (P0.map (·.1)).Nodup := by rw [hn0]; exact h.f.nn
  have hmemP : ∀ e ∈ es, (e.1, e.2.2) ∈ P0 := fun e he => by rw [← hkb]; exact List.mem_map_of_mem (f := fun e : List UInt8 × Value × Nat => (e.1, e.2.2)) he
  refine nxt 1 2 rfl rfl hF.lt (fun hall => ?_) (fun e he hnv => ?_)
  · refine cf rfl ?_
    refine s1 0 rfl (show 3 < 6 by decide) ?_
    refine s1 0 rfl (show 2 < 6 by decide) ?_
    have hfin : S.D.files.map (crashV keep vs) = S.D.files.map (crashF keep) := by
      refine List.map_congr_left fun f hf => ?_
      have h1 : f.name ∈ P0.map (·.1) := by rw [hn0]; exact List.mem_map_of_mem hf
      rw [← hkeys] at h1
      obtain ⟨e, he, h2⟩ := List.mem_map.1 h1
      have h3 := hall e he
      have h4 := hmemP e he
      have h5 : (e.1, e.2.2) ∈ vs := by
        obtain ⟨q, hq, h6⟩ := List.mem_map.1 h3
        have h7 : q ∈ P0 := hp.mem_iff.1 (by simp [hq])
        have h8 : q = (e.1, e.2.2) := by
          obtain ⟨i, hi, rfl⟩ := List.mem_iff_getElem.1 h7
          obtain ⟨j, hj, h9⟩ := List.mem_iff_getElem.1 h4
          have := (List.getElem_inj (h₀ := by simpa using hi) (h₁ := by simpa using hj) hnbP).1 (by simp [h6, h9])
          subst this
          exact h9
        exact h8 ▸ hq
      unfold crashV
      rw [if_pos]
      exact h2 ▸ List.mem_map_of_mem (f := fun q : List UInt8 × Nat => q.1) h5
    refine ⟨fun w1 hs => ⟨⟨crashD S.D keep, S.bd, S.bm, S.rr, es, S.clk⟩, ⟨rfl, rfl, rfl⟩, rfl, ?_⟩⟩
    refine turn_files h hs _ _ _ _ rfl rfl ?_ (fun k hk => .inl hk)
    show FilesOk S.rr w1 es S.clk (S.D.files.map (crashF keep))
    rw [← hfin]
    exact hF.same (dk_old h hs)
  · refine ct rfl ?_
    refine ent (ke := keS) (e := e) 1 2 rfl rfl he hF.nb ?_
    obtain ⟨f', hf', hnm, v, hve, hRd⟩ := hF.all.memL he
    obtain ⟨f, hf, rfl⟩ := List.mem_map.1 hf'
    rw [crashV_name] at hnm
    have hnv2 : f.name ∉ vs.map (·.1) := by
      intro hc
      obtain ⟨q, hq, h1⟩ := List.mem_map.1 hc
      have h7 : q ∈ P0 := hp.mem_iff.1 (by simp [hq])
      have h4 := hmemP e he
      have h8 : q = (e.1, e.2.2) := by
        obtain ⟨i, hi, rfl⟩ := List.mem_iff_getElem.1 h7
        obtain ⟨j, hj, h9⟩ := List.mem_iff_getElem.1 h4
        have := (List.getElem_inj (h₀ := by simpa using hi) (h₁ := by simpa using hj) hnnP).1 (by simp only [List.getElem_map]; rw [h1, h9, ← hnm])
        subst this
        exact h9
      exact hnv (by rw [show e.2.2 = q.2 by rw [h8]]; exact List.mem_map_of_mem hq)
    have hcf : crashV keep vs f = f := if_neg hnv2
    rw [hcf] at hve hRd
    have hz := h.f.sz f hf
    obtain ⟨rest', hp'⟩ := permMore (fun q : List UInt8 × Nat => q.2) hp (hmemP e he) hnv
    have hlen : (vs ++ [(e.1, e.2.2)]).length ≤ P0.length := by have := hp'.length_eq; simp at this ⊢; omega
    obtain ⟨nn, hnn⟩ : ∃ nn, nn = f.sure + min keep.toNat (f.bs.length - f.sure) := ⟨_, rfl⟩
    obtain ⟨a, c, hvv, _⟩ := id hRd
    subst hvv
    have hcut := RdR.cut (k := nn) hRd (by omega)
    rw [Lib.byteCells_length] at hve hcut
    obtain ⟨hcut, _, hcc, _, hspot, _⟩ := hcut
    have hget := getS_of_mem he (by rw [hkeys]; exact hnnP)
    rw [hve, hnm]
    intro b5
    refine sN 3 rfl rfl rfl ?_ (by kernel_rfl)
    refine ld1 3 rfl (v := .int .i64 f.sure) rfl ?_
    refine biMax ?_
    refine ld1 3 rfl (v := .slice a f.bs.length c) rfl ?_
    refine ld1 3 rfl (v := .int .i64 f.sure) rfl ?_
    refine .as ((f.bs.length - f.sure : Nat) : Int) (by omega) (by simp only [mn]; omega) (by simp only [mx]; omega) ?_
    refine biMin ?_
    refine .as (nn : Int) (by omega) (by simp only [mn]; omega) (by simp only [mx]; omega) ?_
    refine dr [cl S.bd (dkC S.D S.bm) TD, me S.bm keS es S.clk, itE it S.bm S.clk (vs.map (·.2) ++ [e.2.2]), cl b5 #[.slice a f.bs.length c, .int .i64 f.sure] TF] 12 (.t 0 (.t 1 (.t 2 (.t 3 (.t 4 (.t 5 (.t 6 (.t 7 (.t 8 (.t 9 (.t 10 (.t 11 (.n 12 .nil))))))))))))) tab_ok mixed_ok (by kernel_rfl) (.cons (.cons (.cons (.cons (.nil))))) ?_
    refine ld1 0 rfl (v := .map (some S.bm)) rfl ?_
    refine ld1 3 rfl (v := .slice a f.bs.length c) rfl ?_
    refine slCap hspot (by omega) ?_
    refine bu (c := #[.slice a nn nn, .int .i64 nn]) (by kernel_rfl) ?_
    refine mup (ke := keS) (k := f.name) 1 rfl undM keyM ?_
    have hclk : clkS f.name es S.clk = S.clk := by unfold clkS; rw [← hnm, hget]; rfl
    rw [hclk]
    have hFn := hF.set (crashF keep f) (.slice a nn nn) (by rw [crashF, ← hnn]; exact hcut) (by rw [crashF, ← hnn]; simp only [List.length_take]; omega) (by simp only [crashF, List.length_take]; omega) hz.2.2
    rw [setF_map (n := e.2.2) hf h.f.nn hnv2] at hFn
    have e7 : (crashF keep f).name = f.name := rfl
    have e8 : (crashF keep f).sure = nn := by rw [hnn]; rfl
    rw [e7, e8, hclk] at hFn
    refine ⟨(vs ++ [(f.name, e.2.2)], setS f.name (.agg #[.slice a nn nn, .int .i64 nn]) S.clk es), ⟨⟨rest', by rw [← hnm]; exact hp'⟩, ?_, hFn⟩, by simp at hlen ⊢; omega, ⟨⟨rfl, rfl, rfl, trivial⟩, ?_, rfl⟩⟩
    · rw [setS_kb _ _ _ _ (by rw [← hnm, hget]; rfl)]; exact hkb
    · simp only [List.map_append, List.map_cons, List.map_nil]
      exact .cons (.cons (.cons .nil))
end Go.Proofs.Ytdgkaboaapfnmaa
