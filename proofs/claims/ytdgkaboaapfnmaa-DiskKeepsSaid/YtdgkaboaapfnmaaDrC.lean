/- The reference's disk: At, Used, step: the walks. -/
import Derived.Test.YtdgkaboaapfnmaaDrB
namespace Go.Proofs.Ytdgkaboaapfnmaa
open Go.RowKit Go.Sx
set_option linter.unusedVariables false

theorem rfs_at {rr : Nat → Prop} {w : World} {a : Option Addr} {n c : Nat} {fs : List Fe} (h : RFs rr w (.slice a n c) fs) (hne : fs ≠ []) : n = fs.length ∧ ∃ b o, a = some ⟨b, o, none⟩ ∧ rr b ∧ b < w.heap.size ∧ ∃ ps : List (Value × Fe), ps.map (·.2) = fs ∧ (∀ p ∈ ps, RdR rr w p.1 (Lib.byteCells p.2.bs)) ∧ ∀ j x, (rfC ps)[j]? = some x → w.cell? ⟨b, o + j, none⟩ = some x := by
  obtain ⟨ps, h1, h2, a', c', h3, h4⟩ := h
  injection h3 with e1 e2 e3
  subst e1
  obtain ⟨b, o, ha, hr, hb, hc⟩ := h4 hne
  exact ⟨e2, b, o, ha, hr, hb, ps, h1, h2, hc⟩
set_option maxRecDepth 100000 in
theorem rat_any (M : Dk) (fv : Value) (fs : List Fe) (rr : Nat → Prop) (n : List UInt8) (hfs : fs.length ≤ 1000000) (w : World) (h : RFs rr w fv fs) : Calls Try.prog 61 ([.agg (rdC M fv), VS n] : List Value).toArray w fun e w' => e = .returned (.int .i64 (atF n fs 0)) ∧ Below w.heap.size w w' := by
  have h0 := h
  obtain ⟨_, _, _, a, c, rfl, _⟩ := h
  refine enterV tab_ok Try.func61 rfl Try.ntmps61 rfl (St.start w) ?_
  intro b2
  refine lp tab_ok (fun i : Nat => i ≤ fs.length ∧ atF n fs 0 = atF n (fs.drop i) i) (fun i => ⟨[(1, VS n), (2, ptr b2), (5, .int .i64 i)], [cl b2 (rdC M (.slice a fs.length c)) TR], []⟩) (fun i => fs.length - i) 0 ⟨Nat.zero_le _, rfl⟩ ⟨⟨rfl, rfl, rfl, trivial⟩, .cons .nil, rfl⟩ ?_
  rintro i ⟨hi, hat⟩
  refine ld1 0 rfl (v := .slice a fs.length c) rfl ?_
  refine cd (fun h => ?_) (fun h => ?_)
  · have hlt : i < fs.length := by omega
    obtain ⟨_, b, o, rfl, _, hb, ps, hps, _, hc⟩ := rfs_at h0 (by intro e; rw [e] at hlt; simp at hlt)
    have hpl : i < ps.length := by rw [← hps] at hlt; simpa using hlt
    have hpi : ps[i].2 = fs[i] := by subst hps; simp
    obtain ⟨c1, _, _⟩ := rfC_get ps i hpl
    rw [hpi] at c1
    rw [atF_drop n fs i hlt] at hat
    refine ld1 0 rfl (v := .slice (some ⟨b, o, none⟩) fs.length c) rfl ?_
    refine ⟨by omega, by omega, ?_⟩
    refine ldo (v := VS fs[i].name) (by rw [nad_eq, nad_eq, nmu_eq, Int.toNat_natCast, Nat.add_zero]; exact hc _ _ c1) hb ?_
    have hbe := list_beq fs[i].name n
    by_cases he : fs[i].name = n
    · rw [if_pos he] at hat
      refine ct (by rw [hbe, decide_eq_true he]) ?_
      exact rt (by rw [hat]; rfl)
    · rw [if_neg he] at hat
      refine cf (by rw [hbe, decide_eq_false he]) ?_
      refine .as ((i + 1 : Nat) : Int) (by simp) (by simp only [mn]; omega) (by simp only [mx]; omega) ?_
      exact ⟨i + 1, ⟨by omega, hat⟩, by omega, ⟨⟨rfl, rfl, rfl, trivial⟩, .cons .nil, rfl⟩⟩
  · obtain rfl : i = fs.length := by omega
    rw [List.drop_length] at hat
    exact rt (by rw [hat]; rfl)
theorem used_take (fs : List Fe) (i : Nat) (h : i < fs.length) : usedD (fs.take (i + 1)) = usedD (fs.take i) + fs[i].bs.length := by
  unfold usedD
  rw [List.take_succ_eq_append_getElem h, List.map_append, List.sum_append_nat]
  simp only [List.map_cons, List.map_nil, List.sum_cons, List.sum_nil, Nat.add_zero]
theorem used_take_le (fs : List Fe) (i : Nat) : usedD (fs.take i) ≤ usedD fs := by
  have h : usedD fs = usedD (fs.take i) + usedD (fs.drop i) := by
    unfold usedD
    rw [← List.sum_append_nat, ← List.map_append, List.take_append_drop]
  omega
set_option maxRecDepth 100000 in
theorem rused_any (M : Dk) (fv : Value) (fs : List Fe) (rr : Nat → Prop) (hfs : fs.length ≤ 1000000) (hu : usedD fs ≤ 1000000000000) (w : World) (h : RFs rr w fv fs) : Calls Try.prog 48 ([.agg (rdC M fv)] : List Value).toArray w fun e w' => e = .returned (.int .i64 (usedD fs)) ∧ Below w.heap.size w w' := by
  have h0 := h
  obtain ⟨_, _, _, a, c, rfl, _⟩ := h
  refine enterV tab_ok Try.func48 rfl Try.ntmps48 rfl (St.start w) ?_
  intro b2
  refine lp tab_ok (fun i : Nat => i ≤ fs.length) (fun i => ⟨[(1, ptr b2), (3, .int .i64 (usedD (fs.take i))), (4, .int .i64 i)], [cl b2 (rdC M (.slice a fs.length c)) TR], []⟩) (fun i => fs.length - i) 0 (Nat.zero_le _) ⟨⟨rfl, rfl, rfl, trivial⟩, .cons .nil, rfl⟩ ?_
  intro i hi
  refine ld1 0 rfl (v := .slice a fs.length c) rfl ?_
  refine cd (fun h => ?_) (fun h => ?_)
  · have hlt : i < fs.length := by omega
    obtain ⟨_, b, o, rfl, _, hb, ps, hps, hrd, hc⟩ := rfs_at h0 (by intro e; rw [e] at hlt; simp at hlt)
    have hpl : i < ps.length := by rw [← hps] at hlt; simpa using hlt
    have hpi : ps[i].2 = fs[i] := by subst hps; simp
    obtain ⟨_, c1, _⟩ := rfC_get ps i hpl
    obtain ⟨va, vc, hv, _⟩ := hrd ps[i] (List.getElem_mem hpl)
    rw [hpi, Lib.byteCells_length] at hv
    have hut := used_take fs i hlt
    have hle := used_take_le fs (i + 1)
    refine ld1 0 rfl (v := .slice (some ⟨b, o, none⟩) fs.length c) rfl ?_
    refine ⟨by omega, by omega, ?_⟩
    refine ldo (v := .slice va fs[i].bs.length vc) (by rw [nad_eq, nad_eq, nmu_eq, Int.toNat_natCast, ← hv]; have := hc _ _ c1; rwa [← Nat.add_assoc] at this) hb ?_
    refine .as ((usedD (fs.take (i + 1)) : Nat) : Int) (by rw [hut]; simp) (by simp only [mn]; omega) (by simp only [mx]; omega) ?_
    refine .as ((i + 1 : Nat) : Int) (by simp) (by simp only [mn]; omega) (by simp only [mx]; omega) ?_
    exact ⟨i + 1, by omega, by omega, ⟨⟨rfl, rfl, rfl, trivial⟩, .cons .nil, rfl⟩⟩
  · obtain rfl : i = fs.length := by omega
    exact rt (by rw [List.take_of_length_le (Nat.le_refl _)]; rfl)
theorem rdC_one (M : Dk) {fv : Value} (h : fv.oneCell' = true) : (rdC M fv).toList.all (·.oneCell') = true := by
  simp [rdC, h]
  simp [Value.oneCell']
set_option maxRecDepth 100000 in
/-- a step, in the reference -/
theorem rstep_any (M : Dk) (a : Option Addr) (n c : Nat) (hst : M.steps ≤ 1000000) (hl : M.left ≤ 9223372036854775807) (w : World) : Calls Try.prog 60 ([.agg (rdC M (.slice a n c))] : List Value).toArray w fun e w' => e = .returned (.tuple #[.agg (rdC (stepD M).2 (.slice a n c)), .bool (stepD M).1]) ∧ Below w.heap.size w w' := by
  refine enterV tab_ok Try.func60 rfl Try.ntmps60 rfl (St.start w) ?_
  obtain ⟨st, lf, ar, gn, qt, fs⟩ := M
  simp only at hst hl
  intro b1 b2
  refine ld1 0 rfl (v := .bool gn) rfl ?_
  cases gn with
  | true =>
    have e1 : stepD ⟨st, lf, ar, true, qt, fs⟩ = (false, ⟨st, lf, ar, true, qt, fs⟩) := rfl
    rw [e1]
    refine ct rfl ?_
    refine ldN 0 rfl rfl ?_
    refine sN 1 rfl rfl (rdC_one _ rfl) ?_ (by kernel_rfl)
    refine ldN 1 rfl rfl ?_
    exact rt rfl
  | false =>
    refine cf rfl ?_
    refine ld1 0 rfl (v := .bool ar) rfl ?_
    cases ar with
    | true =>
      refine ct rfl ?_
      refine ct rfl ?_
      refine ld1 0 rfl (v := .int .i64 lf) rfl ?_
      refine ct rfl ?_
      refine ct rfl ?_
      refine cq (fun h => ?_) (fun h => ?_)
      · obtain rfl : lf = 0 := by omega
        have e1 : stepD ⟨st, 0, true, false, qt, fs⟩ = (false, ⟨st, 0, true, true, qt, fs⟩) := by simp [stepD]
        rw [e1]
        refine s1 0 rfl (show 4 < 6 by decide) ?_
        refine ldN 0 rfl rfl ?_
        refine sN 1 rfl rfl (rdC_one ⟨st, 0, true, true, qt, fs⟩ rfl) ?_ (by kernel_rfl)
        refine ldN 1 rfl rfl ?_
        exact rt rfl
      · have e1 : stepD ⟨st, lf, true, false, qt, fs⟩ = (true, ⟨st + 1, lf - 1, true, false, qt, fs⟩) := by
          have : lf ≠ 0 := by omega
          simp [stepD, this]
        rw [e1]
        refine ld1 0 rfl (v := .bool true) rfl ?_
        refine ct rfl ?_
        refine ld1 0 rfl (v := .int .i64 lf) rfl ?_
        refine .as ((lf - 1 : Nat) : Int) (by omega) (by simp only [mn]; omega) (by simp only [mx]; omega) ?_
        refine s1 0 rfl (show 2 < 6 by decide) ?_
        refine ld1 0 rfl (v := .int .i64 st) rfl ?_
        refine .as ((st + 1 : Nat) : Int) (by simp) (by simp only [mn]; omega) (by simp only [mx]; omega) ?_
        refine s1 0 rfl (show 1 < 6 by decide) ?_
        refine ldN 0 rfl rfl ?_
        refine sN 1 rfl rfl (rdC_one ⟨st + 1, lf - 1, true, false, qt, fs⟩ rfl) ?_ (by kernel_rfl)
        refine ldN 1 rfl rfl ?_
        exact rt rfl
    | false =>
      have e1 : stepD ⟨st, lf, false, false, qt, fs⟩ = (true, ⟨st + 1, lf, false, false, qt, fs⟩) := by simp [stepD]
      rw [e1]
      iterate 3 refine cf rfl ?_
      refine cf rfl ?_
      refine cf rfl ?_
      refine ld1 0 rfl (v := .bool false) rfl ?_
      refine cf rfl ?_
      refine ld1 0 rfl (v := .int .i64 st) rfl ?_
      refine .as ((st + 1 : Nat) : Int) (by simp) (by simp only [mn]; omega) (by simp only [mx]; omega) ?_
      refine s1 0 rfl (show 1 < 6 by decide) ?_
      refine ldN 0 rfl rfl ?_
      refine sN 1 rfl rfl (rdC_one ⟨st + 1, lf, false, false, qt, fs⟩ rfl) ?_ (by kernel_rfl)
      refine ldN 1 rfl rfl ?_
      exact rt rfl
end Go.Proofs.Ytdgkaboaapfnmaa
