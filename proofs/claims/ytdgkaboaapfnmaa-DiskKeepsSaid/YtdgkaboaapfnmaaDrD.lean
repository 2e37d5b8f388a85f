/- The reference's disk: put, without: the walks. -/
import Derived.Test.YtdgkaboaapfnmaaDrC
namespace Go.Proofs.Ytdgkaboaapfnmaa
open Go.RowKit Go.Sx
set_option linter.unusedVariables false

abbrev PF := Value × Fe
def putStep (f : PF) (s : List PF × Bool) (q : PF) : List PF × Bool :=
  (fun s1 : List PF × Bool => if q.2.name = f.2.name then s1 else (s1.1 ++ [q], s1.2)) (if s.2 = false ∧ ¬ q.2.name < f.2.name then (s.1 ++ [f], true) else s)
def putS (f : PF) (ps : List PF) : List PF × Bool := ps.foldl (putStep f) ([], false)
def putP (f : PF) (ps : List PF) : List PF := if (putS f ps).2 then (putS f ps).1 else (putS f ps).1 ++ [f]
def woP (n : List UInt8) (ps : List PF) : List PF := ps.filter fun q => decide (q.2.name ≠ n)
theorem putS_len (f : PF) (ps : List PF) : (putS f ps).1.length ≤ ps.length + 1 ∧ ((putS f ps).2 = false → (putS f ps).1.length ≤ ps.length) := by
  suffices h : ∀ (s : List PF × Bool) (k : Nat), (s.1.length ≤ k + 1 ∧ (s.2 = false → s.1.length ≤ k)) → (ps.foldl (putStep f) s).1.length ≤ k + ps.length + 1 ∧ ((ps.foldl (putStep f) s).2 = false → (ps.foldl (putStep f) s).1.length ≤ k + ps.length) by
    have := h ([], false) 0 (by simp)
    simpa [putS] using this
  induction ps with
  | nil => intro s k h; simpa using h
  | cons q l ih =>
    intro s k h
    have : (putStep f s q).1.length ≤ (k + 1) + 1 ∧ ((putStep f s q).2 = false → (putStep f s q).1.length ≤ k + 1) := by
      obtain ⟨o, d⟩ := s
      simp only at h
      unfold putStep
      cases d
      · have h2 := h.2 rfl
        by_cases h1 : q.2.name < f.2.name <;> by_cases h3 : q.2.name = f.2.name <;> simp [h1, h3] <;> omega
      · by_cases h3 : q.2.name = f.2.name <;> simp [h3] <;> omega
    have := ih (putStep f s q) (k + 1) this
    simp only [List.foldl_cons, List.length_cons]
    rw [show k + (l.length + 1) = (k + 1) + l.length by omega]
    exact this
theorem putS_take (f : PF) (ps : List PF) (i : Nat) (h : i < ps.length) : putS f (ps.take (i + 1)) = putStep f (putS f (ps.take i)) ps[i] := by
  unfold putS
  rw [List.take_succ_eq_append_getElem h, List.foldl_append]; rfl
/-- some cells of what was there -/
theorem ldoN {P : Program} {T : Tab} {N : Nat} {F : Option Nat} {B : World} {L : List Ent} {b o n : Nat} {d : Array Value} {next : Value → Prop} (h : ∀ j u, d[j]? = some u → B.cell? ⟨b, o + j, none⟩ = some u) (hb : b < B.heap.size) (hn : d.size = n) (go : next (.agg d)) : LdN ⟨P, T, N, [], B, F⟩ L b o n next :=
  ⟨d, hn, fun w hs j v hv => (hs.below.cell (p := ⟨b, o + j, none⟩) hb).trans (h j v (by simpa using hv)), go⟩
theorem infoFi : (Try.prog.info? TFi).map (fun i => (i.zero, i.size, i.bytes)) = some (some (.agg #[.string ⟨#[]⟩, .slice none 0 0, .int .i64 0]), 3, 48) := by kernel_rfl
theorem undFs : Try.prog.underlying TFs = some (.slice TFi) := by kernel_rfl
theorem bsF (n : List UInt8) (a : Option Addr) (l c k : Nat) (w : World) : (Instr.buildSlice TFs 1 #[(0, .agg #[VS n, .slice a l c, .int .i64 k])]).run Try.prog w = .ok (.slice (some ⟨w.heap.size, 0, none⟩) 1 1) (w.alloc (.cells #[VS n, .slice a l c, .int .i64 k] TFi)) := by
  obtain ⟨i, hi, hz, hs, hb⟩ := infoOf infoFi
  exact run_buildSlice w _ _ 1 _ #[VS n, .slice a l c, .int .i64 k] i (.agg #[.string ⟨#[]⟩, .slice none 0 0, .int .i64 0]) undFs hi hz (by rw [hs]; decide) (by rw [hs]; decide) (by rw [hs]; kernel_rfl)
/-- a pair's slice is written out -/
structure IsSl (p : PF) (a : Option Addr) (l c : Nat) : Prop where
  e : p.1 = .slice a l c
set_option maxRecDepth 100000 in
set_option maxHeartbeats 2000000 in
/-- the files with one more, or another one of that name -/
theorem put_any (fa : Option Addr) (fc : Nat) (ps : List PF) (f : PF) (va : Option Addr) (vl vc : Nat) (hf : f.1 = .slice va vl vc) (hps : ∀ p ∈ ps, ∃ a l c, p.1 = .slice a l c) (hlen : ps.length ≤ 1000000) (w : World)
    (hrd : ps ≠ [] → ∃ b o, fa = some ⟨b, o, none⟩ ∧ b < w.heap.size ∧ ∀ j x, (rfC ps)[j]? = some x → w.cell? ⟨b, o + j, none⟩ = some x) :
    Calls Try.prog 62 ([.slice fa ps.length fc, .agg #[VS f.2.name, .slice va vl vc, .int .i64 f.2.sure]] : List Value).toArray w fun e w' => ∃ r, e = .returned (sv r (putP f ps).length) ∧ Rw 3 (putP f ps).length r (rfC (putP f ps)) ∧ Made w w' r (rfC (putP f ps)) TFi ∧ Below w.heap.size w w' := by
  refine (enter tab_ok Try.func62 rfl Try.ntmps62 rfl (St.start w) (R := fun v w' => ∃ r, v = sv r (putP f ps).length ∧ Rw 3 (putP f ps).length r (rfC (putP f ps)) ∧ Made w w' r (rfC (putP f ps)) TFi ∧ Below w.heap.size w w') ?_).mono (fun e w' ⟨v, he, r, h1, h2⟩ => ⟨r, by rw [he, h1], h2⟩)
  have e8 : ∀ out : List PF, rfC (out ++ [f]) = rfC out ++ [VS f.2.name, .slice va vl vc, .int .i64 f.2.sure] := fun out => by rw [rfC_app]; simp [rfC, hf]
  intro b3
  refine lp tab_ok (fun x : Nat × Sx.Own => x.1 ≤ ps.length ∧ Rw 3 (putS f (ps.take x.1)).1.length x.2 (rfC (putS f (ps.take x.1)).1)) (fun x => ⟨[(0, .slice fa ps.length fc), (3, ptr b3), (5, sv x.2 (putS f (ps.take x.1)).1.length), (6, .bool (putS f (ps.take x.1)).2), (7, .int .i64 x.1)], [cl b3 #[VS f.2.name, .slice va vl vc, .int .i64 f.2.sure] TFi, se x.2 (rfC (putS f (ps.take x.1)).1) TFi], []⟩) (fun x => ps.length - x.1)
    (0, none) ⟨Nat.zero_le _, Rw.nil 3⟩ ⟨⟨rfl, rfl, rfl, rfl, rfl, trivial⟩, .cons (.pad .nil), rfl⟩ ?_
  rintro ⟨i, r⟩ ⟨hi, hR⟩
  simp only at hi hR
  have hsl := (putS_len f (ps.take i)).1
  have htl : (ps.take i).length = i := by simp; omega
  rw [htl] at hsl
  refine cd (fun h => ?_) (fun h => ?_)
  · have hlt : i < ps.length := by (try simp only at h); omega
    obtain ⟨b, o, rfl, hb, hc⟩ := hrd (by intro e; rw [e] at hlt; simp at hlt)
    have hst := putS_take f ps i hlt
    obtain ⟨c1, c2, c3⟩ := rfC_get ps i hlt
    obtain ⟨qa, ql, qc, hq⟩ := hps ps[i] (List.getElem_mem hlt)
    have hcells : ∀ j u, (#[VS ps[i].2.name, .slice qa ql qc, .int .i64 ps[i].2.sure] : Array Value)[j]? = some u → w.cell? ⟨b, o + i * 3 + j, none⟩ = some u := by
      intro j u hu
      rw [Nat.add_assoc]
      refine hc _ _ ?_
      rw [← hq] at hu
      rcases j with _ | _ | _ | j
      · exact c1.trans hu
      · exact c2.trans hu
      · exact c3.trans hu
      · simp at hu
    have hname := hcells 0 _ rfl
    generalize hS : putS f (ps.take i) = s at *
    obtain ⟨out, done⟩ := s
    simp only at hR hsl
    generalize hQ : ps[i] = q at *
    cases done with
    | true =>
      have hfin : putS f (ps.take (i + 1)) = if q.2.name = f.2.name then (out, true) else (out ++ [q], true) := by rw [hst]; simp [putStep]
      refine dr [cl b3 #[VS f.2.name, .slice va vl vc, .int .i64 f.2.sure] TFi] 99 (.t 0 (.t 1 (.t 2 (.t 3 (.t 4 (.t 5 (.t 6 (.t 7 (.t 8 (.t 9 (.t 10 (.t 11 .nil)))))))))))) tab_ok mixed_ok (by kernel_rfl) (.cons .nil) ?_
      iterate 8 refine cf rfl ?_
      refine cf rfl ?_
      refine cf rfl ?_
      refine dr [cl b3 #[VS f.2.name, .slice va vl vc, .int .i64 f.2.sure] TFi] 99 (.t 0 (.t 1 (.t 2 (.t 3 (.t 4 (.t 5 (.t 6 (.t 7 .nil)))))))) tab_ok mixed_ok (by kernel_rfl) (.cons .nil) ?_
      refine ⟨by omega, by (try simp only); omega, ?_⟩
      refine ldo (v := VS q.2.name) (by rw [nad_eq, nad_eq, nmu_eq, Int.toNat_natCast]; exact hname) hb ?_
      refine ld1 0 rfl (v := VS f.2.name) rfl ?_
      have hbe := list_beq q.2.name f.2.name
      by_cases he : q.2.name = f.2.name
      · have hfin2 : putS f (ps.take (i + 1)) = (out, true) := by rw [hfin, if_pos he]
        refine cf (by show (!_) = false; rw [hbe, decide_eq_true he]; rfl) ?_
        refine .as ((i + 1 : Nat) : Int) (by simp) (by simp only [mn]; omega) (by simp only [mx]; omega) ?_
        refine ⟨(i + 1, r), ⟨by (try simp only); omega, by simp only [hfin2]; exact hR⟩, by (try simp only); omega, ⟨⟨rfl, rfl, by simp only [hfin2]; rfl, by simp only [hfin2]; rfl, rfl, trivial⟩, by simp only [hfin2]; exact .cons (.cons .nil), rfl⟩⟩
      · have hfin2 : putS f (ps.take (i + 1)) = (out ++ [q], true) := by rw [hfin, if_neg he]
        refine ct (by show (!_) = true; rw [hbe, decide_eq_false he]; rfl) ?_
        refine ⟨by omega, by (try simp only); omega, ?_⟩
        refine ldoN (d := #[VS q.2.name, .slice qa ql qc, .int .i64 q.2.sure]) (fun j u hu => by rw [nad_eq, nmu_eq, Int.toNat_natCast]; exact hcells j u hu) hb rfl ?_
        refine .mk _ _ (bsF _ _ _ _ _) (fun b8 => ?_)
        refine ap 1 (z := 3) (n := (out).length) (m := 1) (news := [VS q.2.name, .slice qa ql qc, .int .i64 q.2.sure]) tab_ok rfl infoFi rfl rfl hR (srcE (C := ⟨Try.prog, tab, 52, [], w, none⟩) (e' := TFi) (tx := TFs) (z := 3) rfl tab_ok (src 2 rfl rfl) rfl (by simp [Value.oneCell'])) (by (try simp only); omega) (by (try simp only); unfold maxLen; omega) (fun r' hR' => ?_)
        have e9 : rfC (out ++ [q]) = rfC (out) ++ [VS q.2.name, .slice qa ql qc, .int .i64 q.2.sure] := by rw [rfC_app]; simp [rfC, hq]
        refine .as ((i + 1 : Nat) : Int) (by simp) (by simp only [mn]; omega) (by simp only [mx]; omega) ?_
        refine ⟨(i + 1, r'), ⟨by (try simp only); omega, by simp only [hfin2, e9, List.length_append, List.length_singleton]; first | exact hR' | (rw [hl1] at hR'; exact hR')⟩, by (try simp only); omega, ⟨⟨rfl, rfl, by simp only [hfin2, List.length_append, List.length_singleton]; rfl, by simp only [hfin2]; rfl, rfl, trivial⟩, by simp only [hfin2, e9]; exact .cons (.cons .nil), rfl⟩⟩
    | false =>
      refine dr [cl b3 #[VS f.2.name, .slice va vl vc, .int .i64 f.2.sure] TFi] 99 (.t 0 (.t 1 (.t 2 (.t 3 (.t 4 (.t 5 (.t 6 (.t 7 (.t 8 (.t 9 (.t 10 (.t 11 .nil)))))))))))) tab_ok mixed_ok (by kernel_rfl) (.cons .nil) ?_
      refine ct rfl ?_
      refine ct rfl ?_
      refine ct rfl ?_
      refine ⟨by omega, by (try simp only); omega, ?_⟩
      refine ct rfl ?_
      refine ct rfl ?_
      refine ldo (v := VS q.2.name) (by rw [nad_eq, nad_eq, nmu_eq, Int.toNat_natCast]; exact hname) hb ?_
      refine ct rfl ?_
      refine ct rfl ?_
      refine ld1 0 rfl (v := VS f.2.name) rfl ?_
      refine ct rfl ?_
      refine ct rfl ?_
      have hless := str_less q.2.name f.2.name
      by_cases hlt2 : q.2.name < f.2.name
      · have hfin : putS f (ps.take (i + 1)) = if q.2.name = f.2.name then (out, false) else (out ++ [q], false) := by rw [hst]; simp [putStep, hlt2]
        refine cf (by show (!_) = false; rw [hless, decide_eq_true hlt2]; rfl) ?_
        refine dr [cl b3 #[VS f.2.name, .slice va vl vc, .int .i64 f.2.sure] TFi] 99 (.t 0 (.t 1 (.t 2 (.t 3 (.t 4 (.t 5 (.t 6 (.t 7 .nil)))))))) tab_ok mixed_ok (by kernel_rfl) (.cons .nil) ?_
        refine ⟨by omega, by (try simp only); omega, ?_⟩
        refine ldo (v := VS q.2.name) (by rw [nad_eq, nad_eq, nmu_eq, Int.toNat_natCast]; exact hname) hb ?_
        refine ld1 0 rfl (v := VS f.2.name) rfl ?_
        have hbe := list_beq q.2.name f.2.name
        by_cases he : q.2.name = f.2.name
        · have hfin2 : putS f (ps.take (i + 1)) = (out, false) := by rw [hfin, if_pos he]
          refine cf (by show (!_) = false; rw [hbe, decide_eq_true he]; rfl) ?_
          refine .as ((i + 1 : Nat) : Int) (by simp) (by simp only [mn]; omega) (by simp only [mx]; omega) ?_
          refine ⟨(i + 1, r), ⟨by (try simp only); omega, by simp only [hfin2]; exact hR⟩, by (try simp only); omega, ⟨⟨rfl, rfl, by simp only [hfin2]; rfl, by simp only [hfin2]; rfl, rfl, trivial⟩, by simp only [hfin2]; exact .cons (.cons .nil), rfl⟩⟩
        · have hfin2 : putS f (ps.take (i + 1)) = (out ++ [q], false) := by rw [hfin, if_neg he]
          refine ct (by show (!_) = true; rw [hbe, decide_eq_false he]; rfl) ?_
          refine ⟨by omega, by (try simp only); omega, ?_⟩
          refine ldoN (d := #[VS q.2.name, .slice qa ql qc, .int .i64 q.2.sure]) (fun j u hu => by rw [nad_eq, nmu_eq, Int.toNat_natCast]; exact hcells j u hu) hb rfl ?_
          refine .mk _ _ (bsF _ _ _ _ _) (fun b8 => ?_)
          refine ap 1 (z := 3) (n := (out).length) (m := 1) (news := [VS q.2.name, .slice qa ql qc, .int .i64 q.2.sure]) tab_ok rfl infoFi rfl rfl hR (srcE (C := ⟨Try.prog, tab, 52, [], w, none⟩) (e' := TFi) (tx := TFs) (z := 3) rfl tab_ok (src 2 rfl rfl) rfl (by simp [Value.oneCell'])) (by (try simp only); omega) (by (try simp only); unfold maxLen; omega) (fun r' hR' => ?_)
          have e9 : rfC (out ++ [q]) = rfC (out) ++ [VS q.2.name, .slice qa ql qc, .int .i64 q.2.sure] := by rw [rfC_app]; simp [rfC, hq]
          refine .as ((i + 1 : Nat) : Int) (by simp) (by simp only [mn]; omega) (by simp only [mx]; omega) ?_
          refine ⟨(i + 1, r'), ⟨by (try simp only); omega, by simp only [hfin2, e9, List.length_append, List.length_singleton]; first | exact hR' | (rw [hl1] at hR'; exact hR')⟩, by (try simp only); omega, ⟨⟨rfl, rfl, by simp only [hfin2, List.length_append, List.length_singleton]; rfl, by simp only [hfin2]; rfl, rfl, trivial⟩, by simp only [hfin2, e9]; exact .cons (.cons .nil), rfl⟩⟩
      · have hfin : putS f (ps.take (i + 1)) = if q.2.name = f.2.name then (out ++ [f], true) else (out ++ [f] ++ [q], true) := by rw [hst]; simp [putStep, hlt2]
        refine ct (by show (!_) = true; rw [hless, decide_eq_false hlt2]; rfl) ?_
        refine ldN 0 rfl rfl ?_
        refine .mk _ _ (bsF _ _ _ _ _) (fun b7 => ?_)
        refine ap 1 (z := 3) (n := out.length) (m := 1) (news := [VS f.2.name, .slice va vl vc, .int .i64 f.2.sure]) tab_ok rfl infoFi rfl rfl hR (srcE (C := ⟨Try.prog, tab, 52, [], w, none⟩) (e' := TFi) (tx := TFs) (z := 3) rfl tab_ok (src 2 rfl rfl) rfl (by simp [Value.oneCell'])) (by (try simp only); omega) (by (try simp only); unfold maxLen; omega) (fun r1 hR1 => ?_)
        have hl1 : (out ++ [f]).length = out.length + 1 := by simp
        rw [← e8] at hR1 ⊢
        rw [← hl1] at hR1 ⊢
        refine dr [cl b3 #[VS f.2.name, .slice va vl vc, .int .i64 f.2.sure] TFi] 99 (.t 0 (.t 1 (.t 2 (.t 3 (.t 4 (.t 5 (.t 6 (.t 7 .nil)))))))) tab_ok mixed_ok (by kernel_rfl) (.cons .nil) ?_
        refine ⟨by omega, by (try simp only); omega, ?_⟩
        refine ldo (v := VS q.2.name) (by rw [nad_eq, nad_eq, nmu_eq, Int.toNat_natCast]; exact hname) hb ?_
        refine ld1 0 rfl (v := VS f.2.name) rfl ?_
        have hbe := list_beq q.2.name f.2.name
        by_cases he : q.2.name = f.2.name
        · have hfin2 : putS f (ps.take (i + 1)) = ((out ++ [f]), true) := by rw [hfin, if_pos he]
          refine cf (by show (!_) = false; rw [hbe, decide_eq_true he]; rfl) ?_
          refine .as ((i + 1 : Nat) : Int) (by simp) (by simp only [mn]; omega) (by simp only [mx]; omega) ?_
          refine ⟨(i + 1, r1), ⟨by (try simp only); omega, by simp only [hfin2]; exact hR1⟩, by (try simp only); omega, ⟨⟨rfl, rfl, by simp only [hfin2]; rfl, by simp only [hfin2]; rfl, rfl, trivial⟩, by simp only [hfin2]; exact .cons (.cons .nil), rfl⟩⟩
        · have hfin2 : putS f (ps.take (i + 1)) = ((out ++ [f]) ++ [q], true) := by rw [hfin, if_neg he]
          refine ct (by show (!_) = true; rw [hbe, decide_eq_false he]; rfl) ?_
          refine ⟨by omega, by (try simp only); omega, ?_⟩
          refine ldoN (d := #[VS q.2.name, .slice qa ql qc, .int .i64 q.2.sure]) (fun j u hu => by rw [nad_eq, nmu_eq, Int.toNat_natCast]; exact hcells j u hu) hb rfl ?_
          refine .mk _ _ (bsF _ _ _ _ _) (fun b8 => ?_)
          refine ap 1 (z := 3) (n := ((out ++ [f])).length) (m := 1) (news := [VS q.2.name, .slice qa ql qc, .int .i64 q.2.sure]) tab_ok rfl infoFi rfl rfl hR1 (srcE (C := ⟨Try.prog, tab, 52, [], w, none⟩) (e' := TFi) (tx := TFs) (z := 3) rfl tab_ok (src 3 rfl rfl) rfl (by simp [Value.oneCell'])) (by (try simp only); omega) (by (try simp only); unfold maxLen; omega) (fun r' hR' => ?_)
          have e9 : rfC ((out ++ [f]) ++ [q]) = rfC ((out ++ [f])) ++ [VS q.2.name, .slice qa ql qc, .int .i64 q.2.sure] := by rw [rfC_app]; simp [rfC, hq]
          refine .as ((i + 1 : Nat) : Int) (by simp) (by simp only [mn]; omega) (by simp only [mx]; omega) ?_
          refine ⟨(i + 1, r'), ⟨by (try simp only); omega, by simp only [hfin2, e9, List.length_append, List.length_singleton]; first | exact hR' | (rw [hl1] at hR'; exact hR')⟩, by (try simp only); omega, ⟨⟨rfl, rfl, by simp only [hfin2, List.length_append, List.length_singleton]; rfl, by simp only [hfin2]; rfl, rfl, trivial⟩, by simp only [hfin2, e9]; exact .cons (.cons .nil), rfl⟩⟩
  · obtain rfl : i = ps.length := by (try simp only at h); omega
    rw [List.take_of_length_le (Nat.le_refl _)] at hR hsl
    simp only [List.take_of_length_le (Nat.le_refl _)]
    generalize hS : putS f ps = s at *
    obtain ⟨out, done⟩ := s
    have hP : putP f ps = if done then out else out ++ [f] := by unfold putP; rw [hS]
    simp only at hR hsl
    cases done with
    | true =>
      rw [hP, if_pos rfl]
      refine cf rfl ?_
      exact ⟨fun w1 hs => ⟨r, rfl, hR, made_of hs rfl 1 rfl, hs.below⟩⟩
    | false =>
      rw [hP, if_neg (by decide)]
      refine ct rfl ?_
      refine ldN 0 rfl rfl ?_
      refine .mk _ _ (bsF _ _ _ _ _) (fun b7 => ?_)
      refine ap 1 (z := 3) (n := out.length) (m := 1) (news := [VS f.2.name, .slice va vl vc, .int .i64 f.2.sure]) tab_ok rfl infoFi rfl rfl hR (srcE (C := ⟨Try.prog, tab, 52, [], w, none⟩) (e' := TFi) (tx := TFs) (z := 3) rfl tab_ok (src 2 rfl rfl) rfl (by simp [Value.oneCell'])) (by (try simp only); omega) (by (try simp only); unfold maxLen; omega) (fun r1 hR1 => ?_)
      have hl1 : (out ++ [f]).length = out.length + 1 := by simp
      rw [← e8] at hR1 ⊢
      rw [hl1]
      exact ⟨fun w1 hs => ⟨r1, rfl, hR1, made_of hs rfl 1 rfl, hs.below⟩⟩
end Go.Proofs.Ytdgkaboaapfnmaa
