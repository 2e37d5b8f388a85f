/- The reference's disk: Crash: the walk. -/
import Derived.Test.YtdgkaboaapfnmaaDrJ
namespace Go.Proofs.Ytdgkaboaapfnmaa
open Go.RowKit Go.Sx
set_option linter.unusedVariables false


set_option maxRecDepth 100000 in
set_option maxHeartbeats 4000000 in
theorem rcrash_any (M : Dk) (fv : Value) (rr : Nat → Prop) (keep : Int) (hkeep : keep ≤ 9223372036854775807) (hfs : M.files.length ≤ 1000000) (hsz : ∀ f ∈ M.files, f.sure ≤ f.bs.length ∧ f.bs.length ≤ 16777216) (w : World) (h : RFs rr w fv M.files) (hr : ∀ k, rr k → k < w.heap.size) :
    Calls Try.prog 38 ([.agg (rdC M fv), .int .i64 keep] : List Value).toArray w fun e w' => ∃ (fv' : Value) (rr' : Nat → Prop), e = .returned (.agg (rdC (crashD M keep) fv')) ∧ Below w.heap.size w w' ∧ RFs rr' w' fv' (crashD M keep).files ∧ ∀ k, rr' k → w.heap.size ≤ k := by
  obtain ⟨ps, fa, fc, hps, rfl, hrd, hcell⟩ := h.pairs
  have hpl : ps.length = M.files.length := by rw [← hps]; simp
  refine (enter tab_ok Try.func38 rfl Try.ntmps38 rfl (St.start w) (R := fun v w' => ∃ (fv' : Value) (rr' : Nat → Prop), v = .agg (rdC (crashD M keep) fv') ∧ Below w.heap.size w w' ∧ RFs rr' w' fv' (crashD M keep).files ∧ ∀ k, rr' k → w.heap.size ≤ k) ?_).mono (fun e w' ⟨v, he, fv', rr', hv, h⟩ => ⟨fv', rr', by rw [he, hv], h⟩)
  intro b2 b4
  by_cases hneg : keep < 0
  · have hck : crashD M keep = crashD M ((0 : Nat) : Int) := by
      unfold crashD
      congr 1
      refine List.map_congr_left fun f _ => ?_
      unfold crashF
      rw [show keep.toNat = (((0 : Nat) : Nat) : Int).toNat by omega]
    rw [hck]
    refine ct (decide_eq_true hneg) ?_
    refine lp tab_ok (fun x : Nat × Sx.Own × List PF × (Nat → Prop) => x.1 ≤ ps.length ∧ x.2.2.1.map (·.2) = ((ps.take x.1).map (·.2)).map (crashF (0 : Nat)) ∧ Rw 3 x.2.2.1.length x.2.1 (rfC x.2.2.1)) (fun x => ⟨[(1, .int .i64 (0 : Nat)), (2, ptr b2), (4, ptr b4), (5, sv x.2.1 x.2.2.1.length), (6, .int .i64 x.1)], [cl b2 (rdC M (.slice fa ps.length fc)) TR, cl b4 (rdC ⟨0, 0, false, false, 0, []⟩ (.slice none 0 0)) TR, se x.2.1 (rfC x.2.2.1) TFi, bagE x.2.2.2 x.2.2.1], []⟩) (fun x => ps.length - x.1) (0, none, [], fun _ => False) ⟨Nat.zero_le _, by simp, Rw.nil 3⟩ ⟨⟨rfl, rfl, rfl, rfl, rfl, trivial⟩, .cons (.cons (.pad (.pad .nil))), rfl⟩ ?_
    rintro ⟨i, r, qs, own⟩ ⟨hi, hqs, hR⟩
    simp only at hi hqs hR
    have hql : qs.length = i := by have := congrArg List.length hqs; simp at this; omega
    refine ld1 0 rfl (v := .slice fa ps.length fc) rfl ?_
    refine cd (fun h => ?_) (fun h => ?_)
    · have hil : i < ps.length := by (try simp only at h); omega
      obtain ⟨p, hp⟩ : ∃ p, p = ps[i] := ⟨_, rfl⟩
      obtain ⟨f, hpf⟩ : ∃ f, f = p.2 := ⟨_, rfl⟩
      have hpm : p ∈ ps := hp ▸ List.getElem_mem hil
      have hpr := hrd p hpm
      rw [← hpf] at hpr
      obtain ⟨qa, qc, hq⟩ := rdr_slice hpr
      rw [hq] at hpr
      have hmap : ((ps.take (i + 1)).map (·.2)).map (crashF (0 : Nat)) = ((ps.take i).map (·.2)).map (crashF (0 : Nat)) ++ [crashF (0 : Nat) f] := by
        rw [List.take_succ_eq_append_getElem hil, List.map_append, List.map_append, ← hp]; simp [hpf]
      have hfz := hsz f (by rw [← hps, hpf]; exact List.mem_map_of_mem hpm)
      obtain ⟨fb, fo, hfa, hfb, _, hfc⟩ := hcell (by intro e; rw [e] at hil; simp at hil)
      subst hfa
      obtain ⟨c1, c2, c3⟩ := rfC_get ps i hil
      rw [← hp, ← hpf] at c1 c3
      rw [← hp, hq] at c2
      have hcells : ∀ j u, (#[VS f.name, .slice qa f.bs.length qc, .int .i64 f.sure] : Array Value)[j]? = some u → w.cell? ⟨fb, fo + i * 3 + j, none⟩ = some u := by
        intro j u hu
        rw [Nat.add_assoc]
        refine hfc _ _ ?_
        rcases j with _ | _ | _ | j
        · exact c1.trans hu
        · exact c2.trans hu
        · exact c3.trans hu
        · simp at hu
      refine ld1 0 rfl (v := .slice (some ⟨fb, fo, none⟩) ps.length fc) rfl ?_
      refine ⟨by omega, by (try simp only); omega, ?_⟩
      refine ldoN (d := #[VS f.name, .slice qa f.bs.length qc, .int .i64 f.sure]) (fun j u hu => by rw [nad_eq, nmu_eq, Int.toNat_natCast]; exact hcells j u hu) hfb rfl ?_
      intro b7
      refine sN 4 rfl rfl rfl ?_ (by kernel_rfl)
      refine ld1 4 rfl (v := .slice qa f.bs.length qc) rfl ?_
      refine ld1 4 rfl (v := .int .i64 f.sure) rfl ?_
      refine .as ((f.bs.length - f.sure : Nat) : Int) (by omega) (by simp only [mn]; omega) (by simp only [mx]; omega) ?_
      by_cases hgt : (0 : Nat) < f.bs.length - f.sure
      · refine ct (decide_eq_true (by omega)) ?_
        refine ld1 4 rfl (v := .int .i64 f.sure) rfl ?_
        refine .as ((f.sure + (0 : Nat) : Nat) : Int) (by (try simp only); omega) (by simp only [mn]; omega) (by simp only [mx]; omega) ?_
        have hnl : f.sure + (0 : Nat) ≤ f.bs.length := by omega
        have hcF : crashF (0 : Nat) f = ⟨f.name, f.bs.take (f.sure + (0 : Nat)), f.sure + (0 : Nat)⟩ := by unfold crashF; rw [Int.toNat_natCast, show f.sure + min (0 : Nat) (f.bs.length - f.sure) = f.sure + (0 : Nat) by omega]
        obtain ⟨_, _, hcc, _, hspot, _⟩ := RdR.cut (k := f.sure + (0 : Nat)) hpr hnl
        have htl : (Lib.byteCells (f.bs.take (f.sure + (0 : Nat)))).length = f.sure + (0 : Nat) := by rw [Lib.byteCells_length, List.length_take, Nat.min_eq_left hnl]
        refine dr [cl b2 (rdC M (.slice (some ⟨fb, fo, none⟩) ps.length fc)) TR, cl b4 (rdC ⟨0, 0, false, false, 0, []⟩ (.slice none 0 0)) TR, dead, dead, cl b7 #[VS f.name, .slice qa f.bs.length qc, .int .i64 f.sure] TFi] 99 (.t 0 (.t 1 (.t 2 (.t 4 (.t 5 (.t 6 (.t 7 (.t 9 (.n 3 (.n 8 (.t 10 (.n 11 (.n 12 (.t 13 .nil)))))))))))))) tab_ok mixed_ok (by kernel_rfl) (.cons (.cons (.dead (.dead (.cons .nil))))) ?_
        refine ld1 4 rfl (v := VS f.name) rfl ?_
        refine ld1 4 rfl (v := .slice qa f.bs.length qc) rfl ?_
        refine slTo hspot hnl hcc ?_
        refine .mk _ _ bsl0 (fun b10 => ?_)
        refine ⟨(.cons (.cons (.dead (.dead (.cons .nil))))), ?_⟩
        have hSf : ∀ w', Below w.heap.size w w' → Src Try.prog 1 31 (.slice qa (f.sure + (0 : Nat)) qc) (f.sure + (0 : Nat)) (Lib.byteCells (f.bs.take (f.sure + (0 : Nat)))) w' := fun w' hb => by
          have h1 := Rd.src (tx := 31) (Rd.cap (c' := qc) (RdR.cut (k := f.sure + (0 : Nat)) (RdR.below hb hr hpr) hnl).1.rd) und22 (one8 _)
          rwa [htl] at h1
        refine biImp (next' := fun v L' => ∃ r1, Rw 1 (f.sure + (0 : Nat)) r1 (Lib.byteCells (f.bs.take (f.sure + (0 : Nat)))) ∧ v = sv r1 (f.sure + (0 : Nat)) ∧ L' = [cl b2 (rdC M (.slice (some ⟨fb, fo, none⟩) ps.length fc)) TR, cl b4 (rdC ⟨0, 0, false, false, 0, []⟩ (.slice none 0 0)) TR, se r (rfC qs) TFi, bagE own qs, cl b7 #[VS f.name, .slice qa f.bs.length qc, .int .i64 f.sure] TFi, se r1 (Lib.byteCells (f.bs.take (f.sure + (0 : Nat)))) 5]) (ap (r := some (b10, 0, [])) (xs := []) (n := 0) (m := f.sure + (0 : Nat)) (news := Lib.byteCells (f.bs.take (f.sure + (0 : Nat)))) 5 tab_ok rfl info5 rfl rfl ⟨rfl, Nat.le_refl _, by unfold maxLen; omega, rfl⟩ (fun w' hs => hSf w' hs.below) (by omega) (by unfold maxLen; omega) (fun r1 hR1 => by rw [List.nil_append, Nat.zero_add] at *; exact ⟨r1, hR1, rfl, rfl⟩)) ?_
        rintro v L' ⟨r1, hR1, rfl, rfl⟩
        refine ⟨_, fun w1 hs => bag_add hs (k := 3) (j := 5) rfl rfl hR1 (by decide) (crashF (0 : Nat) f) (by rw [hcF]), ?_⟩
        obtain ⟨a1, c1, hv1⟩ := rw_slice hR1
        rw [hv1]
        refine ⟨(.cons (.cons (.dead (.dead (.cons .nil))))), ?_⟩
        refine bu (c := #[VS f.name, .slice a1 (f.sure + (0 : Nat)) c1, .int .i64 (f.sure + (0 : Nat) : Nat)]) (by kernel_rfl) ?_
        refine .mk _ _ (bsF _ _ _ _ _) (fun b12 => ?_)
        refine ⟨(.cons (.cons (.dead (.dead (.cons .nil))))), ?_⟩
        refine ap 2 (z := 3) (n := qs.length) (m := 1) (news := [VS f.name, .slice a1 (f.sure + (0 : Nat)) c1, .int .i64 (f.sure + (0 : Nat) : Nat)]) tab_ok rfl infoFi rfl rfl hR (srcE (C := ⟨Try.prog, tab, 54, [], w, none⟩) (e' := TFi) (tx := TFs) (z := 3) rfl tab_ok (src 6 rfl rfl) rfl (by simp [Value.oneCell'])) (by omega) (by unfold maxLen; omega) (fun r2 hR2 => ?_)
        refine ⟨(.cons (.cons (.dead (.dead (.cons .nil))))), ?_⟩
        have e9 : rfC (qs ++ [(.slice a1 (f.sure + (0 : Nat)) c1, crashF (0 : Nat) f)]) = rfC qs ++ [VS f.name, .slice a1 (f.sure + (0 : Nat)) c1, .int .i64 (f.sure + (0 : Nat) : Nat)] := by rw [rfC_app, hcF]; simp [rfC]
        have e10 : (qs ++ [((.slice a1 (f.sure + (0 : Nat)) c1 : Value), crashF (0 : Nat) f)]).length = qs.length + 1 := by simp
        refine .as ((i + 1 : Nat) : Int) (by simp) (by simp only [mn]; omega) (by simp only [mx]; omega) ?_
        refine ⟨(i + 1, r2, qs ++ [(.slice a1 (f.sure + (0 : Nat)) c1, crashF (0 : Nat) f)], fun i => (own i ∧ qs ≠ []) ∨ rowB r1 i), ⟨by (try simp only); omega, by rw [List.map_append, hqs, hmap]; rfl, by rw [e9, e10]; exact hR2⟩, by (try simp only); omega, ⟨⟨rfl, rfl, rfl, by simp only [e10]; rfl, rfl, trivial⟩, by simp only [e9]; exact .cons (.cons (.cons (.cons .nil))), rfl⟩⟩
      · refine cf (decide_eq_false (by omega)) ?_
        have hnl : f.bs.length ≤ f.bs.length := by omega
        have hcF : crashF (0 : Nat) f = ⟨f.name, f.bs.take (f.bs.length), f.bs.length⟩ := by unfold crashF; rw [Int.toNat_natCast, show f.sure + min (0 : Nat) (f.bs.length - f.sure) = f.bs.length by omega]
        obtain ⟨_, _, hcc, _, hspot, _⟩ := RdR.cut (k := f.bs.length) hpr hnl
        have htl : (Lib.byteCells (f.bs.take (f.bs.length))).length = f.bs.length := by rw [Lib.byteCells_length, List.length_take, Nat.min_eq_left hnl]
        refine dr [cl b2 (rdC M (.slice (some ⟨fb, fo, none⟩) ps.length fc)) TR, cl b4 (rdC ⟨0, 0, false, false, 0, []⟩ (.slice none 0 0)) TR, dead, dead, cl b7 #[VS f.name, .slice qa f.bs.length qc, .int .i64 f.sure] TFi] 99 (.t 0 (.t 1 (.t 2 (.t 4 (.t 5 (.t 6 (.t 7 (.t 9 (.n 3 (.n 8 (.t 10 (.n 11 (.n 12 (.t 13 .nil)))))))))))))) tab_ok mixed_ok (by kernel_rfl) (.cons (.cons (.dead (.dead (.cons .nil))))) ?_
        refine ld1 4 rfl (v := VS f.name) rfl ?_
        refine ld1 4 rfl (v := .slice qa f.bs.length qc) rfl ?_
        refine slTo hspot hnl hcc ?_
        refine .mk _ _ bsl0 (fun b10 => ?_)
        refine ⟨(.cons (.cons (.dead (.dead (.cons .nil))))), ?_⟩
        have hSf : ∀ w', Below w.heap.size w w' → Src Try.prog 1 31 (.slice qa (f.bs.length) qc) (f.bs.length) (Lib.byteCells (f.bs.take (f.bs.length))) w' := fun w' hb => by
          have h1 := Rd.src (tx := 31) (Rd.cap (c' := qc) (RdR.cut (k := f.bs.length) (RdR.below hb hr hpr) hnl).1.rd) und22 (one8 _)
          rwa [htl] at h1
        refine biImp (next' := fun v L' => ∃ r1, Rw 1 (f.bs.length) r1 (Lib.byteCells (f.bs.take (f.bs.length))) ∧ v = sv r1 (f.bs.length) ∧ L' = [cl b2 (rdC M (.slice (some ⟨fb, fo, none⟩) ps.length fc)) TR, cl b4 (rdC ⟨0, 0, false, false, 0, []⟩ (.slice none 0 0)) TR, se r (rfC qs) TFi, bagE own qs, cl b7 #[VS f.name, .slice qa f.bs.length qc, .int .i64 f.sure] TFi, se r1 (Lib.byteCells (f.bs.take (f.bs.length))) 5]) (ap (r := some (b10, 0, [])) (xs := []) (n := 0) (m := f.bs.length) (news := Lib.byteCells (f.bs.take (f.bs.length))) 5 tab_ok rfl info5 rfl rfl ⟨rfl, Nat.le_refl _, by unfold maxLen; omega, rfl⟩ (fun w' hs => hSf w' hs.below) (by omega) (by unfold maxLen; omega) (fun r1 hR1 => by rw [List.nil_append, Nat.zero_add] at *; exact ⟨r1, hR1, rfl, rfl⟩)) ?_
        rintro v L' ⟨r1, hR1, rfl, rfl⟩
        refine ⟨_, fun w1 hs => bag_add hs (k := 3) (j := 5) rfl rfl hR1 (by decide) (crashF (0 : Nat) f) (by rw [hcF]), ?_⟩
        obtain ⟨a1, c1, hv1⟩ := rw_slice hR1
        rw [hv1]
        refine ⟨(.cons (.cons (.dead (.dead (.cons .nil))))), ?_⟩
        refine bu (c := #[VS f.name, .slice a1 (f.bs.length) c1, .int .i64 (f.bs.length : Nat)]) (by kernel_rfl) ?_
        refine .mk _ _ (bsF _ _ _ _ _) (fun b12 => ?_)
        refine ⟨(.cons (.cons (.dead (.dead (.cons .nil))))), ?_⟩
        refine ap 2 (z := 3) (n := qs.length) (m := 1) (news := [VS f.name, .slice a1 (f.bs.length) c1, .int .i64 (f.bs.length : Nat)]) tab_ok rfl infoFi rfl rfl hR (srcE (C := ⟨Try.prog, tab, 54, [], w, none⟩) (e' := TFi) (tx := TFs) (z := 3) rfl tab_ok (src 6 rfl rfl) rfl (by simp [Value.oneCell'])) (by omega) (by unfold maxLen; omega) (fun r2 hR2 => ?_)
        refine ⟨(.cons (.cons (.dead (.dead (.cons .nil))))), ?_⟩
        have e9 : rfC (qs ++ [(.slice a1 (f.bs.length) c1, crashF (0 : Nat) f)]) = rfC qs ++ [VS f.name, .slice a1 (f.bs.length) c1, .int .i64 (f.bs.length : Nat)] := by rw [rfC_app, hcF]; simp [rfC]
        have e10 : (qs ++ [((.slice a1 (f.bs.length) c1 : Value), crashF (0 : Nat) f)]).length = qs.length + 1 := by simp
        refine .as ((i + 1 : Nat) : Int) (by simp) (by simp only [mn]; omega) (by simp only [mx]; omega) ?_
        refine ⟨(i + 1, r2, qs ++ [(.slice a1 (f.bs.length) c1, crashF (0 : Nat) f)], fun i => (own i ∧ qs ≠ []) ∨ rowB r1 i), ⟨by (try simp only); omega, by rw [List.map_append, hqs, hmap]; rfl, by rw [e9, e10]; exact hR2⟩, by (try simp only); omega, ⟨⟨rfl, rfl, rfl, by simp only [e10]; rfl, rfl, trivial⟩, by simp only [e9]; exact .cons (.cons (.cons (.cons .nil))), rfl⟩⟩
    · obtain rfl : i = ps.length := by (try simp only at h); omega
      rw [List.take_of_length_le (Nat.le_refl _), hps] at hqs
      refine s1 0 rfl (show 5 < 6 by decide) ?_ (h1 := by cases r <;> rfl) (hv := by cases r <;> rfl)
      refine s1 0 rfl (show 4 < 6 by decide) ?_
      refine s1 0 rfl (show 3 < 6 by decide) ?_
      refine ldN 0 rfl rfl ?_
      refine sN 1 rfl rfl (rdC_one (crashD M (0 : Nat)) (by cases r <;> rfl)) ?_ (by kernel_rfl)
      refine ldN 1 rfl rfl ?_
      refine ⟨fun w1 hs => ⟨sv r qs.length, fun j => (own j ∧ qs ≠ []) ∨ rowB r j, rfl, hs.below, ?_, ?_⟩⟩
      · have := RFs.own (rr := fun j => own j ∧ qs ≠ []) hs 2 rfl hR (fun p hp => (bagE_ok (hs.ok _ (List.mem_of_getElem? (i := 3) rfl)) p hp).mono fun j hj => ⟨hj, by intro e; rw [e] at hp; cases hp⟩)
        rwa [hqs] at this
      · intro j hj
        rcases hj with ⟨h1, h2⟩ | h1
        · have h3 : (bagE own qs).W j := by unfold bagE; rw [if_neg h2]; simpa [bagR] using h1
          rcases hs.ownW _ (List.mem_of_getElem? (i := 3) rfl) j h3 with h4 | h4
          · exact h4
          · simp at h4
        · exact own_new hs 2 rfl j h1
  · obtain ⟨z, rfl⟩ : ∃ z : Nat, keep = z := ⟨keep.toNat, by omega⟩
    refine cf (decide_eq_false hneg) ?_
    refine lp tab_ok (fun x : Nat × Sx.Own × List PF × (Nat → Prop) => x.1 ≤ ps.length ∧ x.2.2.1.map (·.2) = ((ps.take x.1).map (·.2)).map (crashF z) ∧ Rw 3 x.2.2.1.length x.2.1 (rfC x.2.2.1)) (fun x => ⟨[(1, .int .i64 z), (2, ptr b2), (4, ptr b4), (5, sv x.2.1 x.2.2.1.length), (6, .int .i64 x.1)], [cl b2 (rdC M (.slice fa ps.length fc)) TR, cl b4 (rdC ⟨0, 0, false, false, 0, []⟩ (.slice none 0 0)) TR, se x.2.1 (rfC x.2.2.1) TFi, bagE x.2.2.2 x.2.2.1], []⟩) (fun x => ps.length - x.1) (0, none, [], fun _ => False) ⟨Nat.zero_le _, by simp, Rw.nil 3⟩ ⟨⟨rfl, rfl, rfl, rfl, rfl, trivial⟩, .cons (.cons (.pad (.pad .nil))), rfl⟩ ?_
    rintro ⟨i, r, qs, own⟩ ⟨hi, hqs, hR⟩
    simp only at hi hqs hR
    have hql : qs.length = i := by have := congrArg List.length hqs; simp at this; omega
    refine ld1 0 rfl (v := .slice fa ps.length fc) rfl ?_
    refine cd (fun h => ?_) (fun h => ?_)
    · have hil : i < ps.length := by (try simp only at h); omega
      obtain ⟨p, hp⟩ : ∃ p, p = ps[i] := ⟨_, rfl⟩
      obtain ⟨f, hpf⟩ : ∃ f, f = p.2 := ⟨_, rfl⟩
      have hpm : p ∈ ps := hp ▸ List.getElem_mem hil
      have hpr := hrd p hpm
      rw [← hpf] at hpr
      obtain ⟨qa, qc, hq⟩ := rdr_slice hpr
      rw [hq] at hpr
      have hmap : ((ps.take (i + 1)).map (·.2)).map (crashF z) = ((ps.take i).map (·.2)).map (crashF z) ++ [crashF z f] := by
        rw [List.take_succ_eq_append_getElem hil, List.map_append, List.map_append, ← hp]; simp [hpf]
      have hfz := hsz f (by rw [← hps, hpf]; exact List.mem_map_of_mem hpm)
      obtain ⟨fb, fo, hfa, hfb, _, hfc⟩ := hcell (by intro e; rw [e] at hil; simp at hil)
      subst hfa
      obtain ⟨c1, c2, c3⟩ := rfC_get ps i hil
      rw [← hp, ← hpf] at c1 c3
      rw [← hp, hq] at c2
      have hcells : ∀ j u, (#[VS f.name, .slice qa f.bs.length qc, .int .i64 f.sure] : Array Value)[j]? = some u → w.cell? ⟨fb, fo + i * 3 + j, none⟩ = some u := by
        intro j u hu
        rw [Nat.add_assoc]
        refine hfc _ _ ?_
        rcases j with _ | _ | _ | j
        · exact c1.trans hu
        · exact c2.trans hu
        · exact c3.trans hu
        · simp at hu
      refine ld1 0 rfl (v := .slice (some ⟨fb, fo, none⟩) ps.length fc) rfl ?_
      refine ⟨by omega, by (try simp only); omega, ?_⟩
      refine ldoN (d := #[VS f.name, .slice qa f.bs.length qc, .int .i64 f.sure]) (fun j u hu => by rw [nad_eq, nmu_eq, Int.toNat_natCast]; exact hcells j u hu) hfb rfl ?_
      intro b7
      refine sN 4 rfl rfl rfl ?_ (by kernel_rfl)
      refine ld1 4 rfl (v := .slice qa f.bs.length qc) rfl ?_
      refine ld1 4 rfl (v := .int .i64 f.sure) rfl ?_
      refine .as ((f.bs.length - f.sure : Nat) : Int) (by omega) (by simp only [mn]; omega) (by simp only [mx]; omega) ?_
      by_cases hgt : z < f.bs.length - f.sure
      · refine ct (decide_eq_true (by omega)) ?_
        refine ld1 4 rfl (v := .int .i64 f.sure) rfl ?_
        refine .as ((f.sure + z : Nat) : Int) (by (try simp only); omega) (by simp only [mn]; omega) (by simp only [mx]; omega) ?_
        have hnl : f.sure + z ≤ f.bs.length := by omega
        have hcF : crashF z f = ⟨f.name, f.bs.take (f.sure + z), f.sure + z⟩ := by unfold crashF; rw [Int.toNat_natCast, show f.sure + min z (f.bs.length - f.sure) = f.sure + z by omega]
        obtain ⟨_, _, hcc, _, hspot, _⟩ := RdR.cut (k := f.sure + z) hpr hnl
        have htl : (Lib.byteCells (f.bs.take (f.sure + z))).length = f.sure + z := by rw [Lib.byteCells_length, List.length_take, Nat.min_eq_left hnl]
        refine dr [cl b2 (rdC M (.slice (some ⟨fb, fo, none⟩) ps.length fc)) TR, cl b4 (rdC ⟨0, 0, false, false, 0, []⟩ (.slice none 0 0)) TR, dead, dead, cl b7 #[VS f.name, .slice qa f.bs.length qc, .int .i64 f.sure] TFi] 99 (.t 0 (.t 1 (.t 2 (.t 4 (.t 5 (.t 6 (.t 7 (.t 9 (.n 3 (.n 8 (.t 10 (.n 11 (.n 12 (.t 13 .nil)))))))))))))) tab_ok mixed_ok (by kernel_rfl) (.cons (.cons (.dead (.dead (.cons .nil))))) ?_
        refine ld1 4 rfl (v := VS f.name) rfl ?_
        refine ld1 4 rfl (v := .slice qa f.bs.length qc) rfl ?_
        refine slTo hspot hnl hcc ?_
        refine .mk _ _ bsl0 (fun b10 => ?_)
        refine ⟨(.cons (.cons (.dead (.dead (.cons .nil))))), ?_⟩
        have hSf : ∀ w', Below w.heap.size w w' → Src Try.prog 1 31 (.slice qa (f.sure + z) qc) (f.sure + z) (Lib.byteCells (f.bs.take (f.sure + z))) w' := fun w' hb => by
          have h1 := Rd.src (tx := 31) (Rd.cap (c' := qc) (RdR.cut (k := f.sure + z) (RdR.below hb hr hpr) hnl).1.rd) und22 (one8 _)
          rwa [htl] at h1
        refine biImp (next' := fun v L' => ∃ r1, Rw 1 (f.sure + z) r1 (Lib.byteCells (f.bs.take (f.sure + z))) ∧ v = sv r1 (f.sure + z) ∧ L' = [cl b2 (rdC M (.slice (some ⟨fb, fo, none⟩) ps.length fc)) TR, cl b4 (rdC ⟨0, 0, false, false, 0, []⟩ (.slice none 0 0)) TR, se r (rfC qs) TFi, bagE own qs, cl b7 #[VS f.name, .slice qa f.bs.length qc, .int .i64 f.sure] TFi, se r1 (Lib.byteCells (f.bs.take (f.sure + z))) 5]) (ap (r := some (b10, 0, [])) (xs := []) (n := 0) (m := f.sure + z) (news := Lib.byteCells (f.bs.take (f.sure + z))) 5 tab_ok rfl info5 rfl rfl ⟨rfl, Nat.le_refl _, by unfold maxLen; omega, rfl⟩ (fun w' hs => hSf w' hs.below) (by omega) (by unfold maxLen; omega) (fun r1 hR1 => by rw [List.nil_append, Nat.zero_add] at *; exact ⟨r1, hR1, rfl, rfl⟩)) ?_
        rintro v L' ⟨r1, hR1, rfl, rfl⟩
        refine ⟨_, fun w1 hs => bag_add hs (k := 3) (j := 5) rfl rfl hR1 (by decide) (crashF z f) (by rw [hcF]), ?_⟩
        obtain ⟨a1, c1, hv1⟩ := rw_slice hR1
        rw [hv1]
        refine ⟨(.cons (.cons (.dead (.dead (.cons .nil))))), ?_⟩
        refine bu (c := #[VS f.name, .slice a1 (f.sure + z) c1, .int .i64 (f.sure + z : Nat)]) (by kernel_rfl) ?_
        refine .mk _ _ (bsF _ _ _ _ _) (fun b12 => ?_)
        refine ⟨(.cons (.cons (.dead (.dead (.cons .nil))))), ?_⟩
        refine ap 2 (z := 3) (n := qs.length) (m := 1) (news := [VS f.name, .slice a1 (f.sure + z) c1, .int .i64 (f.sure + z : Nat)]) tab_ok rfl infoFi rfl rfl hR (srcE (C := ⟨Try.prog, tab, 54, [], w, none⟩) (e' := TFi) (tx := TFs) (z := 3) rfl tab_ok (src 6 rfl rfl) rfl (by simp [Value.oneCell'])) (by omega) (by unfold maxLen; omega) (fun r2 hR2 => ?_)
        refine ⟨(.cons (.cons (.dead (.dead (.cons .nil))))), ?_⟩
        have e9 : rfC (qs ++ [(.slice a1 (f.sure + z) c1, crashF z f)]) = rfC qs ++ [VS f.name, .slice a1 (f.sure + z) c1, .int .i64 (f.sure + z : Nat)] := by rw [rfC_app, hcF]; simp [rfC]
        have e10 : (qs ++ [((.slice a1 (f.sure + z) c1 : Value), crashF z f)]).length = qs.length + 1 := by simp
        refine .as ((i + 1 : Nat) : Int) (by simp) (by simp only [mn]; omega) (by simp only [mx]; omega) ?_
        refine ⟨(i + 1, r2, qs ++ [(.slice a1 (f.sure + z) c1, crashF z f)], fun i => (own i ∧ qs ≠ []) ∨ rowB r1 i), ⟨by (try simp only); omega, by rw [List.map_append, hqs, hmap]; rfl, by rw [e9, e10]; exact hR2⟩, by (try simp only); omega, ⟨⟨rfl, rfl, rfl, by simp only [e10]; rfl, rfl, trivial⟩, by simp only [e9]; exact .cons (.cons (.cons (.cons .nil))), rfl⟩⟩
      · refine cf (decide_eq_false (by omega)) ?_
        have hnl : f.bs.length ≤ f.bs.length := by omega
        have hcF : crashF z f = ⟨f.name, f.bs.take (f.bs.length), f.bs.length⟩ := by unfold crashF; rw [Int.toNat_natCast, show f.sure + min z (f.bs.length - f.sure) = f.bs.length by omega]
        obtain ⟨_, _, hcc, _, hspot, _⟩ := RdR.cut (k := f.bs.length) hpr hnl
        have htl : (Lib.byteCells (f.bs.take (f.bs.length))).length = f.bs.length := by rw [Lib.byteCells_length, List.length_take, Nat.min_eq_left hnl]
        refine dr [cl b2 (rdC M (.slice (some ⟨fb, fo, none⟩) ps.length fc)) TR, cl b4 (rdC ⟨0, 0, false, false, 0, []⟩ (.slice none 0 0)) TR, dead, dead, cl b7 #[VS f.name, .slice qa f.bs.length qc, .int .i64 f.sure] TFi] 99 (.t 0 (.t 1 (.t 2 (.t 4 (.t 5 (.t 6 (.t 7 (.t 9 (.n 3 (.n 8 (.t 10 (.n 11 (.n 12 (.t 13 .nil)))))))))))))) tab_ok mixed_ok (by kernel_rfl) (.cons (.cons (.dead (.dead (.cons .nil))))) ?_
        refine ld1 4 rfl (v := VS f.name) rfl ?_
        refine ld1 4 rfl (v := .slice qa f.bs.length qc) rfl ?_
        refine slTo hspot hnl hcc ?_
        refine .mk _ _ bsl0 (fun b10 => ?_)
        refine ⟨(.cons (.cons (.dead (.dead (.cons .nil))))), ?_⟩
        have hSf : ∀ w', Below w.heap.size w w' → Src Try.prog 1 31 (.slice qa (f.bs.length) qc) (f.bs.length) (Lib.byteCells (f.bs.take (f.bs.length))) w' := fun w' hb => by
          have h1 := Rd.src (tx := 31) (Rd.cap (c' := qc) (RdR.cut (k := f.bs.length) (RdR.below hb hr hpr) hnl).1.rd) und22 (one8 _)
          rwa [htl] at h1
        refine biImp (next' := fun v L' => ∃ r1, Rw 1 (f.bs.length) r1 (Lib.byteCells (f.bs.take (f.bs.length))) ∧ v = sv r1 (f.bs.length) ∧ L' = [cl b2 (rdC M (.slice (some ⟨fb, fo, none⟩) ps.length fc)) TR, cl b4 (rdC ⟨0, 0, false, false, 0, []⟩ (.slice none 0 0)) TR, se r (rfC qs) TFi, bagE own qs, cl b7 #[VS f.name, .slice qa f.bs.length qc, .int .i64 f.sure] TFi, se r1 (Lib.byteCells (f.bs.take (f.bs.length))) 5]) (ap (r := some (b10, 0, [])) (xs := []) (n := 0) (m := f.bs.length) (news := Lib.byteCells (f.bs.take (f.bs.length))) 5 tab_ok rfl info5 rfl rfl ⟨rfl, Nat.le_refl _, by unfold maxLen; omega, rfl⟩ (fun w' hs => hSf w' hs.below) (by omega) (by unfold maxLen; omega) (fun r1 hR1 => by rw [List.nil_append, Nat.zero_add] at *; exact ⟨r1, hR1, rfl, rfl⟩)) ?_
        rintro v L' ⟨r1, hR1, rfl, rfl⟩
        refine ⟨_, fun w1 hs => bag_add hs (k := 3) (j := 5) rfl rfl hR1 (by decide) (crashF z f) (by rw [hcF]), ?_⟩
        obtain ⟨a1, c1, hv1⟩ := rw_slice hR1
        rw [hv1]
        refine ⟨(.cons (.cons (.dead (.dead (.cons .nil))))), ?_⟩
        refine bu (c := #[VS f.name, .slice a1 (f.bs.length) c1, .int .i64 (f.bs.length : Nat)]) (by kernel_rfl) ?_
        refine .mk _ _ (bsF _ _ _ _ _) (fun b12 => ?_)
        refine ⟨(.cons (.cons (.dead (.dead (.cons .nil))))), ?_⟩
        refine ap 2 (z := 3) (n := qs.length) (m := 1) (news := [VS f.name, .slice a1 (f.bs.length) c1, .int .i64 (f.bs.length : Nat)]) tab_ok rfl infoFi rfl rfl hR (srcE (C := ⟨Try.prog, tab, 54, [], w, none⟩) (e' := TFi) (tx := TFs) (z := 3) rfl tab_ok (src 6 rfl rfl) rfl (by simp [Value.oneCell'])) (by omega) (by unfold maxLen; omega) (fun r2 hR2 => ?_)
        refine ⟨(.cons (.cons (.dead (.dead (.cons .nil))))), ?_⟩
        have e9 : rfC (qs ++ [(.slice a1 (f.bs.length) c1, crashF z f)]) = rfC qs ++ [VS f.name, .slice a1 (f.bs.length) c1, .int .i64 (f.bs.length : Nat)] := by rw [rfC_app, hcF]; simp [rfC]
        have e10 : (qs ++ [((.slice a1 (f.bs.length) c1 : Value), crashF z f)]).length = qs.length + 1 := by simp
        refine .as ((i + 1 : Nat) : Int) (by simp) (by simp only [mn]; omega) (by simp only [mx]; omega) ?_
        refine ⟨(i + 1, r2, qs ++ [(.slice a1 (f.bs.length) c1, crashF z f)], fun i => (own i ∧ qs ≠ []) ∨ rowB r1 i), ⟨by (try simp only); omega, by rw [List.map_append, hqs, hmap]; rfl, by rw [e9, e10]; exact hR2⟩, by (try simp only); omega, ⟨⟨rfl, rfl, rfl, by simp only [e10]; rfl, rfl, trivial⟩, by simp only [e9]; exact .cons (.cons (.cons (.cons .nil))), rfl⟩⟩
    · obtain rfl : i = ps.length := by (try simp only at h); omega
      rw [List.take_of_length_le (Nat.le_refl _), hps] at hqs
      refine s1 0 rfl (show 5 < 6 by decide) ?_ (h1 := by cases r <;> rfl) (hv := by cases r <;> rfl)
      refine s1 0 rfl (show 4 < 6 by decide) ?_
      refine s1 0 rfl (show 3 < 6 by decide) ?_
      refine ldN 0 rfl rfl ?_
      refine sN 1 rfl rfl (rdC_one (crashD M z) (by cases r <;> rfl)) ?_ (by kernel_rfl)
      refine ldN 1 rfl rfl ?_
      refine ⟨fun w1 hs => ⟨sv r qs.length, fun j => (own j ∧ qs ≠ []) ∨ rowB r j, rfl, hs.below, ?_, ?_⟩⟩
      · have := RFs.own (rr := fun j => own j ∧ qs ≠ []) hs 2 rfl hR (fun p hp => (bagE_ok (hs.ok _ (List.mem_of_getElem? (i := 3) rfl)) p hp).mono fun j hj => ⟨hj, by intro e; rw [e] at hp; cases hp⟩)
        rwa [hqs] at this
      · intro j hj
        rcases hj with ⟨h1, h2⟩ | h1
        · have h3 : (bagE own qs).W j := by unfold bagE; rw [if_neg h2]; simpa [bagR] using h1
          rcases hs.ownW _ (List.mem_of_getElem? (i := 3) rfl) j h3 with h4 | h4
          · exact h4
          · simp at h4
        · exact own_new hs 2 rfl j h1
end Go.Proofs.Ytdgkaboaapfnmaa
