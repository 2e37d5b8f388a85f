/- The law's stands: the walk. -/
import Derived.Test.YtdgkaboaapfnmaaDoE
namespace Go.Proofs.Ytdgkaboaapfnmaa
open Go.RowKit Go.Sx
set_option linter.unusedVariables false

theorem infoT : (Try.prog.info? 9).map (fun i => (i.zero, i.size, i.bytes)) = some (some (.string ⟨#[]⟩), 1, 16) := by kernel_rfl
theorem undTs : Try.prog.underlying 48 = some (.slice 9) := by kernel_rfl
theorem bsT0 (w : World) : (Instr.buildSlice 48 0 #[]).run Try.prog w = .ok (.slice (some ⟨w.heap.size, 0, none⟩) 0 0) (w.alloc (.cells #[] 9)) := by
  obtain ⟨i, hi, hz, hs, hb⟩ := infoOf infoT
  simp [Instr.buildSlice, run_underlying undTs, sizeOf, typeInfo, hi, newRow, Instr.fill]
  exact congrArg (fun c => w.alloc (.cells c 9)) (Array.ext' (by simp))
theorem bsT1 (l : List UInt8) (w : World) : (Instr.buildSlice 48 1 #[(0, VS l)]).run Try.prog w = .ok (.slice (some ⟨w.heap.size, 0, none⟩) 1 1) (w.alloc (.cells #[VS l] 9)) := by
  obtain ⟨i, hi, hz, hs, hb⟩ := infoOf infoT
  exact run_buildSlice w _ _ 1 _ #[VS l] i (.string ⟨#[]⟩) undTs hi hz (by rw [hs]; decide) (by rw [hs]; decide) (by rw [hs]; kernel_rfl)
theorem txt_app (a b : List (List UInt8)) : txtCells (a ++ b) = txtCells a ++ txtCells b := by simp [txtCells]
set_option maxRecDepth 100000 in
set_option maxHeartbeats 4000000 in
theorem stands_any (S : DkS) (M : Dk) (fv : Value) (rr : Nat → Prop) (he : Eqv S.D M) (hD : Fits S.D) (hM : Fits M) (w : World) (h : DkP S w) (hf : RFs rr w fv M.files) (hr : ∀ k, rr k → k < w.heap.size) :
    Calls Try.prog 20 ([ptr S.bd, .agg (rdC M fv)] : List Value).toArray w fun e w' => e = .returned (.bool true) ∧ Below w.heap.size w w' := by
  obtain ⟨ps, fa, fc, hps, rfl, hrd, hcell⟩ := hf.pairs
  have hpl : ps.length = M.files.length := by rw [← hps]; simp
  have hfl := hM.fl
  refine enterV tab_ok Try.func20 rfl Try.ntmps20 rfl (St.start w) ?_
  intro b3
  refine .mk _ _ bsT0 (fun b5 => ?_)
  refine ld1 0 rfl (v := .slice fa ps.length fc) rfl ?_
  refine lp tab_ok (fun x : Nat × Sx.Own => x.1 ≤ ps.length ∧ Rw 1 x.1 x.2 (txtCells ((ps.take x.1).map (·.2.name)))) (fun x => ⟨[(0, ptr S.bd), (3, ptr b3), (5, sv x.2 x.1), (12, .slice fa ps.length fc), (13, .int .i64 ps.length), (14, .int .i64 x.1)], [cl b3 (rdC M (.slice fa ps.length fc)) TR, se x.2 (txtCells ((ps.take x.1).map (·.2.name))) 9], []⟩) (fun x => ps.length - x.1)
    (0, some (b5, 0, [])) ⟨Nat.zero_le _, rfl, Nat.le_refl _, by unfold maxLen; omega, rfl⟩ ⟨⟨rfl, rfl, rfl, rfl, rfl, rfl, trivial⟩, .cons (.cons .nil), rfl⟩ ?_
  rintro ⟨i, r⟩ ⟨hi, hR⟩
  simp only at hi hR
  refine cd (fun hc => ?_) (fun hc => ?_)
  · have hil : i < ps.length := by (try simp only at hc); omega
    obtain ⟨p, hp⟩ : ∃ p, p = ps[i] := ⟨_, rfl⟩
    obtain ⟨f, hpf⟩ : ∃ f, f = p.2 := ⟨_, rfl⟩
    have hpm : p ∈ ps := hp ▸ List.getElem_mem hil
    have hpr := hrd p hpm
    rw [← hpf] at hpr
    obtain ⟨qa, qc, hq⟩ := rdr_slice hpr
    rw [hq] at hpr
    have hfm : f ∈ M.files := by rw [← hps, hpf]; exact List.mem_map_of_mem hpm
    have hfind : findF f.name S.D.files = some f := by rw [← he.f.find]; exact find_some he.f.s.nd hfm
    obtain ⟨fb, fo, hfa, hfb, _, hfc⟩ := hcell (by intro e; rw [e] at hil; simp at hil)
    subst hfa
    obtain ⟨c1, c2, c3⟩ := rfC_get ps i hil
    rw [← hp, ← hpf] at c1 c3
    rw [← hp, hq] at c2
    have hcells : ∀ j u, (#[VS f.name, .slice qa f.bs.length qc, .int .i64 f.sure] : Array Value)[j]? = some u → w.cell? ⟨fb, fo + i * 3 + j, none⟩ = some u := by
      intro j u hu
      rw [Nat.add_assoc]
      refine hfc _ _ ?_
      rcases j with _ | _ | _ | j
      · exact c1.trans hu
      · exact c2.trans hu
      · exact c3.trans hu
      · simp at hu
    have e9 : txtCells ((ps.take (i + 1)).map (·.2.name)) = txtCells ((ps.take i).map (·.2.name)) ++ [VS f.name] := by
      rw [List.take_succ_eq_append_getElem hil, List.map_append, txt_app, ← hp]; simp [txtCells, hpf]
    refine ⟨by omega, by (try simp only); omega, ?_⟩
    refine ldoN (d := #[VS f.name, .slice qa f.bs.length qc, .int .i64 f.sure]) (fun j u hu => by rw [nad_eq, nmu_eq, Int.toNat_natCast]; exact hcells j u hu) hfb rfl ?_
    intro b7
    refine sN 2 rfl rfl rfl ?_ (by kernel_rfl)
    refine ld1 2 rfl (v := VS f.name) rfl ?_
    refine .mk _ _ (bsT1 _) (fun b8 => ?_)
    refine ap 1 (z := 1) (n := i) (m := 1) (news := [VS f.name]) tab_ok rfl infoT rfl rfl hR (srcE (C := ⟨Try.prog, tab, 87, [], w, none⟩) (e' := 9) (tx := 48) (z := 1) rfl tab_ok (src 3 rfl rfl) rfl (by simp [Value.oneCell'])) (by omega) (by unfold maxLen; omega) (fun r' hR' => ?_)
    rw [← e9] at hR' ⊢
    refine dr [cl b3 (rdC M (.slice (some ⟨fb, fo, none⟩) ps.length fc)) TR, dead, cl b7 #[VS f.name, .slice qa f.bs.length qc, .int .i64 f.sure] TFi] 99 (.t 0 (.t 1 (.t 2 (.t 4 (.t 5 (.t 3 (.t 6 .nil))))))) tab_ok mixed_ok (by kernel_rfl) (.cons (.dead (.cons .nil))) ?_
    refine ld1 2 rfl (v := VS f.name) rfl ?_
    refine ld1 2 rfl (v := .int .i64 f.sure) rfl ?_
    refine czs (v := .int .i64 f.sure) (fun w1 hs => by have := sure_any S f.name w1 (dk_below h hs.below); rwa [hfind] at this) ?_
    refine cf (by simp) ?_
    refine ld1 2 rfl (v := VS f.name) rfl ?_
    cases hg : M.gone with
    | true =>
      refine coV (fun v => .tuple #[v, errV (readD S.D f.name).2]) (fun w1 hs => read_any S f.name w1 (dk_below h hs.below)) (fun r1 hR1 => ?_)
      refine ld1 0 rfl (v := .bool M.gone) rfl ?_
      rw [hg]
      iterate 6 refine cf rfl ?_
      refine .as ((i + 1 : Nat) : Int) (by simp) (by simp only [mn]; omega) (by simp only [mx]; omega) ?_
      exact ⟨(i + 1, r'), ⟨by (try simp only); omega, hR'⟩, by (try simp only); omega, ⟨⟨rfl, rfl, rfl, rfl, rfl, rfl, trivial⟩, .cons (.cons .nil), rfl⟩⟩
    | false =>
      have hrn : readD S.D f.name = (f.bs, 0) := readN S.D f.name (he.gn.trans hg) hfind
      refine coV (n := f.bs.length) (z := 1) (xs := Lib.byteCells f.bs) (e := 5) (fun v => .tuple #[v, .nilIface]) (fun w1 hs => by have := read_any S f.name w1 (dk_below h hs.below); rw [hrn] at this; exact this) (fun r1 hR1 => ?_)
      refine ld1 0 rfl (v := .bool M.gone) rfl ?_
      rw [hg]
      iterate 3 refine ct rfl ?_
      iterate 3 refine ct rfl ?_
      refine ld1 2 rfl (v := .slice qa f.bs.length qc) rfl ?_
      refine ct rfl ?_
      refine cvs (fun w1 hs => same_yes _ _ f.bs w1 (Rd.own hs 4 rfl hR1) (RdR.below hs.below hr hpr).rd) ?_
      iterate 2 refine ct rfl ?_
      refine cf rfl ?_
      refine ct rfl ?_
      refine cf rfl ?_
      refine .as ((i + 1 : Nat) : Int) (by simp) (by simp only [mn]; omega) (by simp only [mx]; omega) ?_
      exact ⟨(i + 1, r'), ⟨by (try simp only); omega, hR'⟩, by (try simp only); omega, ⟨⟨rfl, rfl, rfl, rfl, rfl, rfl, trivial⟩, .cons (.cons .nil), rfl⟩⟩
  · obtain rfl : i = ps.length := by (try simp only at hc); omega
    rw [List.take_of_length_le (Nat.le_refl _)] at hR
    simp only [List.take_of_length_le (Nat.le_refl _)]
    have hnm : ps.map (·.2.name) = M.files.map (·.name) := by rw [← hps, List.map_map]; rfl
    rw [hnm] at hR ⊢
    have hfd := hD.fl
    have hus := he.f.used
    have hMu := hM.us
    have hDu := hD.us
    refine dr [cl b3 (rdC M (.slice fa ps.length fc)) TR] 99 (.t 0 (.t 2 (.n 1 (.n 3 (.t 4 (.t 5 (.t 6 (.t 7 (.t 8 (.t 9 (.t 10 (.t 11 (.t 12 (.t 13 (.t 14 (.t 15 (.t 16 (.t 17 (.t 18 (.t 19 (.t 20 (.t 21 (.t 22 (.t 23 (.t 24 (.t 25 (.t 26 (.t 27 (.t 28 (.t 29 (.t 30 (.t 31 (.t 32 (.t 33 (.t 34 (.t 35 .nil)))))))))))))))))))))))))))))))))))) tab_ok mixed_ok (by kernel_rfl) (.cons .nil) ?_
    refine co (fun w1 hs => names_any S w1 (dk_below h hs.below) hfd) (fun r2 hR2 => ?_)
    refine ⟨.cons .nil, ?_⟩
    refine cvs (v := .bool true) (fun w1 hs => by have := texts_any _ _ _ _ (by simp [sortT, List.length_mergeSort]; omega) (by simp; unfold maxLen; omega) w1 (Rd.own hs 2 rfl hR2) (Rd.own hs 1 rfl hR); rwa [he.f.names, decide_eq_true rfl] at this) ?_
    refine ⟨.cons .nil, ?_⟩
    iterate 2 refine ct rfl ?_
    refine czs (v := .int .i64 (usedD M.files)) (fun w1 hs => by have := used_any S w1 (dk_below h hs.below) (by omega); rwa [← hus] at this) ?_
    refine ct rfl ?_
    refine ldN 0 rfl rfl ?_
    refine ct rfl ?_
    refine czs (fun w1 hs => rused_any M _ M.files rr hfl (by omega) w1 (RFs.below hs.below hr hf)) ?_
    refine ct rfl ?_
    refine ct rfl ?_
    iterate 2 refine ct (by simp) ?_
    refine czs (v := .int .i64 ((M.quota : Int) - usedD M.files)) (fun w1 hs => by have := free_any S w1 (dk_below h hs.below) (by omega) hD.qt; rwa [← hus, he.qt] at this) ?_
    iterate 2 refine ct (by simp) ?_
    refine ld1 0 rfl (v := .int .i64 M.quota) rfl ?_
    refine ct (by simp) ?_
    refine ldN 0 rfl rfl ?_
    refine ct (by simp) ?_
    refine czs (fun w1 hs => rused_any M _ M.files rr hfl (by omega) w1 (RFs.below hs.below hr hf)) ?_
    refine ct (by simp) ?_
    have hqt := hM.qt
    refine .as ((M.quota : Int) - usedD M.files) rfl (by simp only [mn]; omega) (by simp only [mx]; omega) ?_
    refine ct (by simp) ?_
    refine ct (by simp) ?_
    iterate 2 refine ct (by simp) ?_
    refine czs (v := .int .i64 M.steps) (fun w1 hs => by have := steps_any S w1 (dk_below h hs.below); rwa [he.st] at this) ?_
    iterate 2 refine ct (by simp) ?_
    refine ld1 0 rfl (v := .int .i64 M.steps) rfl ?_
    refine ct (by simp) ?_
    refine ct (by simp) ?_
    iterate 2 refine ct (by simp) ?_
    refine czs (v := .bool M.gone) (fun w1 hs => by have := down_any S w1 (dk_below h hs.below); rwa [he.gn] at this) ?_
    iterate 2 refine ct (by simp) ?_
    refine ld1 0 rfl (v := .bool M.gone) rfl ?_
    refine ct (by simp) ?_
    refine ct (by simp) ?_
    exact rt (congrArg Value.bool (by simp))
end Go.Proofs.Ytdgkaboaapfnmaa
