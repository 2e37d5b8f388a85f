/- The reference's disk: Cut, Rename, Append, Read: the walks. -/
import Derived.Test.YtdgkaboaapfnmaaDrF
namespace Go.Proofs.Ytdgkaboaapfnmaa
open Go.RowKit Go.Sx
set_option linter.unusedVariables false

theorem Rd.cap {w : World} {a : Option Addr} {n c c' : Nat} {xs : List Value} (h : Rd w (.slice a n c) xs) : Rd w (.slice a n c') xs := by
  obtain ⟨a', c1, e, h1⟩ := h
  injection e with e1 e2 e3
  subst e1; subst e2
  exact ⟨a, c', rfl, h1⟩
set_option maxRecDepth 100000 in
set_option maxHeartbeats 2000000 in
theorem rcut_any (M : Dk) (fv : Value) (rr : Nat → Prop) (n : List UInt8) (size : Int) (hfs : M.files.length ≤ 1000000) (hfz : ∀ f ∈ M.files, f.bs.length ≤ 16777216) (hst : M.steps ≤ 1000000) (hl : M.left ≤ 9223372036854775807) (w : World) (h : RFs rr w fv M.files) (hr : ∀ k, rr k → k < w.heap.size) :
    Calls Try.prog 35 ([.agg (rdC M fv), VS n, .int .i64 size] : List Value).toArray w (RefR rr w (rcutD M n size).1 (rcutD M n size).2) := by
  obtain ⟨ps, fa, fc, hps, rfl, hrd, hcell⟩ := h.pairs
  have hpl : ps.length = M.files.length := by rw [← hps]; simp
  have hsl : ∀ p ∈ ps, ∃ a l c, p.1 = .slice a l c := fun p hp => by obtain ⟨a, c, e⟩ := rdr_slice (hrd p hp); exact ⟨a, _, c, e⟩
  refine (enter tab_ok Try.func35 rfl Try.ntmps35 rfl (St.start w) (R := fun v w' => RefR rr w (rcutD M n size).1 (rcutD M n size).2 (.returned v) w') ?_).mono (fun e w' ⟨v, he, h⟩ => by rw [he]; exact h)
  intro b3 b6
  refine ldN 0 rfl rfl ?_
  refine cvs (fun w1 hs => rat_any M _ M.files rr n hfs w1 (h.below hs.below hr)) ?_
  rcases at_find n M.files with ⟨hf1, hf2⟩ | ⟨i, f, hf0, hf1, hf2⟩
  · rw [hf2]
    have e1 : rcutD M n size = (M, 5) := by unfold rcutD; rw [hf1]
    rw [e1]
    refine ct rfl ?_
    refine ldN 0 rfl rfl ?_
    refine sN 1 rfl rfl (rdC_one M rfl) ?_ (by kernel_rfl)
    refine ldN 1 rfl rfl ?_
    exact ⟨fun w1 hs => RefR.same hs hr h rfl rfl⟩
  rw [hf2]
  refine cf (decide_eq_false (by omega)) ?_
  have hfm := findF_mem hf1
  have hil : i < ps.length := by rw [hpl]; exact (List.getElem?_eq_some_iff.1 hf0).1
  obtain ⟨p, hp⟩ : ∃ p, p = ps[i] := ⟨_, rfl⟩
  have hpf : p.2 = f := by
    have h9 : M.files[i]? = some p.2 := by rw [← hps, hp]; simp [hil]
    exact Option.some.inj (h9.symm.trans hf0)
  have hpm : p ∈ ps := hp ▸ List.getElem_mem hil
  have hpr := hrd p hpm
  obtain ⟨qa, qc, hq⟩ := rdr_slice hpr
  rw [hpf] at hq hpr
  obtain ⟨fb, fo, hfa, hfb, _, hfc⟩ := hcell (by intro e; rw [e] at hil; simp at hil)
  subst hfa
  obtain ⟨c1, c2, c3⟩ := rfC_get ps i hil
  rw [← hp, hpf] at c1 c3
  rw [← hp, hq] at c2
  have hcells : ∀ j u, (#[VS f.name, .slice qa f.bs.length qc, .int .i64 f.sure] : Array Value)[j]? = some u → w.cell? ⟨fb, fo + i * 3 + j, none⟩ = some u := by
    intro j u hu
    rw [Nat.add_assoc]
    refine hfc _ _ ?_
    rcases j with _ | _ | _ | j
    · exact c1.trans hu
    · exact c2.trans hu
    · exact c3.trans hu
    · simp at hu
  have hbz := hfz f hfm.1
  refine ld1 0 rfl (v := .slice (some ⟨fb, fo, none⟩) ps.length fc) rfl ?_
  refine ⟨by omega, by (try simp only); omega, ?_⟩
  refine ldoN (d := #[VS f.name, .slice qa f.bs.length qc, .int .i64 f.sure]) (fun j u hu => by rw [nad_eq, nmu_eq, Int.toNat_natCast]; exact hcells j u hu) hfb rfl ?_
  intro b9
  refine sN 2 rfl rfl rfl ?_ (by kernel_rfl)
  by_cases hbad : size < 0 ∨ (f.bs.length : Int) < size
  · have e1 : rcutD M n size = (M, 2) := by unfold rcutD; rw [hf1]; exact if_pos hbad
    rw [e1]
    by_cases h0 : size < 0
    · have f1 := decide_eq_true h0
      have f2 : (decide (size < 0) == false) = false := by rw [f1]; rfl
      iterate 5 refine cf f2 ?_
      refine ct f1 ?_
      refine ct rfl ?_
      refine ldN 0 rfl rfl ?_
      refine sN 1 rfl rfl (rdC_one M rfl) ?_ (by kernel_rfl)
      refine ldN 1 rfl rfl ?_
      exact ⟨fun w1 hs => RefR.same hs hr h rfl rfl⟩
    · have f1 := decide_eq_false h0
      have f2 : (decide (size < 0) == false) = true := by rw [f1]; rfl
      iterate 3 refine ct f2 ?_
      refine ld1 2 rfl (v := .slice qa f.bs.length qc) rfl ?_
      iterate 2 refine ct f2 ?_
      refine cf f1 ?_
      refine ct (decide_eq_true (by omega)) ?_
      refine ldN 0 rfl rfl ?_
      refine sN 1 rfl rfl (rdC_one M rfl) ?_ (by kernel_rfl)
      refine ldN 1 rfl rfl ?_
      exact ⟨fun w1 hs => RefR.same hs hr h rfl rfl⟩
  · have e1 : rcutD M n size = actD M (putF ⟨n, f.bs.take size.toNat, min f.sure size.toNat⟩ M.files) := by unfold rcutD; rw [hf1]; exact if_neg hbad
    obtain ⟨k, rfl⟩ : ∃ k : Nat, size = k := ⟨size.toNat, by omega⟩
    rw [Int.toNat_natCast] at e1
    rw [e1]
    have f1 := decide_eq_false (show ¬ (k : Int) < 0 by omega)
    have f2 : (decide ((k : Int) < 0) == false) = true := by rw [f1]; rfl
    have hkl : k ≤ f.bs.length := by omega
    have hnm : f.name = n := hfm.2
    rw [hq] at hpr
    obtain ⟨_, _, hcc, _, hspot, _⟩ := RdR.cut (k := k) hpr hkl
    iterate 3 refine ct f2 ?_
    refine ld1 2 rfl (v := .slice qa f.bs.length qc) rfl ?_
    iterate 2 refine ct f2 ?_
    refine cf f1 ?_
    refine cf (decide_eq_false (by omega)) ?_
    refine ldN 0 rfl rfl ?_
    refine cv (rstep_any M _ _ _ hst hl) ?_
    refine sN 0 rfl rfl (rdC_one (stepD M).2 rfl) ?_ (by kernel_rfl)
    cases hs1 : (stepD M).1 with
    | false =>
      rw [act_off hs1]
      refine ct rfl ?_
      refine ldN 0 rfl rfl ?_
      refine sN 1 rfl rfl (rdC_one (stepD M).2 rfl) ?_ (by kernel_rfl)
      refine ldN 1 rfl rfl ?_
      exact ⟨fun w1 hs => RefR.same hs hr h (stepD_files M) rfl⟩
    | true =>
    refine cf rfl ?_
    refine .mk _ _ bsl0 (fun b10 => ?_)
    refine ld1 2 rfl (v := .slice qa f.bs.length qc) rfl ?_
    refine slTo hspot hkl hcc ?_
    have htl : (Lib.byteCells (f.bs.take k)).length = k := by rw [Lib.byteCells_length, List.length_take, Nat.min_eq_left hkl]
    refine ap (r := some (b10, 0, [])) (xs := []) (n := 0) (m := (Lib.byteCells (f.bs.take k)).length) (news := Lib.byteCells (f.bs.take k)) 3 tab_ok rfl info5 rfl rfl ⟨rfl, Nat.le_refl _, by unfold maxLen; omega, rfl⟩ (fun w' hs => Rd.src (by rw [htl] at *; exact Rd.cap (RdR.cut (k := k) (RdR.below hs.below hr hpr) hkl).1.rd) und22 (one8 _)) (by omega) (by unfold maxLen; omega) (fun r1 hR1 => ?_)
    rw [List.nil_append, Nat.zero_add] at *
    obtain ⟨a1, c1, hv1⟩ := rw_slice hR1
    rw [hv1]
    refine s1 2 rfl (show 1 < 3 by decide) ?_
    refine ld1 2 rfl (v := .int .i64 f.sure) rfl ?_
    by_cases hks : k < f.sure
    · rw [Nat.min_eq_right (Nat.le_of_lt hks)]
      refine ct (decide_eq_true (by omega)) ?_
      refine s1 2 rfl (show 2 < 3 by decide) ?_
      refine ld1 0 rfl (v := .slice (some ⟨fb, fo, none⟩) ps.length fc) rfl ?_
      refine ldN 2 rfl rfl ?_
      refine co (n := (putP (.slice a1 (Lib.byteCells (f.bs.take k)).length c1, ⟨f.name, f.bs.take k, k⟩) ps).length) (z := 3) (xs := rfC (putP (.slice a1 (Lib.byteCells (f.bs.take k)).length c1, ⟨f.name, f.bs.take k, k⟩) ps)) (e := TFi) (fun w1 hs => put_any _ fc ps (.slice a1 (Lib.byteCells (f.bs.take k)).length c1, ⟨f.name, f.bs.take k, k⟩) a1 (Lib.byteCells (f.bs.take k)).length c1 rfl hsl (by omega) w1 (cells_at hs hcell)) (fun r2 hR2 => ?_)
      refine s1 0 rfl (show 5 < 6 by decide) ?_ (h1 := by cases r2 <;> rfl) (hv := by cases r2 <;> rfl)
      refine ldN 0 rfl rfl ?_
      refine sN 1 rfl rfl (rdC_one (stepD M).2 (by cases r2 <;> rfl)) ?_ (by kernel_rfl)
      refine ldN 1 rfl rfl ?_
      refine ⟨fun w1 hs => RefR.put (rr1 := fun j => rr j ∨ rowB r1 j) hs 4 rfl hR2 (fun p' hp' => ?_) (fun j hj => hj.imp id (own_new hs 3 rfl j)) (by rw [putF_map, hps, hnm]) hs1 rfl⟩
      rcases putP_mem hp' with rfl | hp'
      · have := RdR.own hs 3 rfl hR1; rw [hv1] at this; exact this.mono fun j hj => .inr hj
      · exact (RdR.below hs.below hr (hrd p' hp')).mono fun j hj => .inl hj
    · rw [Nat.min_eq_left (by omega)]
      refine cf (decide_eq_false (by omega)) ?_
      refine ld1 0 rfl (v := .slice (some ⟨fb, fo, none⟩) ps.length fc) rfl ?_
      refine ldN 2 rfl rfl ?_
      refine co (n := (putP (.slice a1 (Lib.byteCells (f.bs.take k)).length c1, ⟨f.name, f.bs.take k, f.sure⟩) ps).length) (z := 3) (xs := rfC (putP (.slice a1 (Lib.byteCells (f.bs.take k)).length c1, ⟨f.name, f.bs.take k, f.sure⟩) ps)) (e := TFi) (fun w1 hs => put_any _ fc ps (.slice a1 (Lib.byteCells (f.bs.take k)).length c1, ⟨f.name, f.bs.take k, f.sure⟩) a1 (Lib.byteCells (f.bs.take k)).length c1 rfl hsl (by omega) w1 (cells_at hs hcell)) (fun r2 hR2 => ?_)
      refine s1 0 rfl (show 5 < 6 by decide) ?_ (h1 := by cases r2 <;> rfl) (hv := by cases r2 <;> rfl)
      refine ldN 0 rfl rfl ?_
      refine sN 1 rfl rfl (rdC_one (stepD M).2 (by cases r2 <;> rfl)) ?_ (by kernel_rfl)
      refine ldN 1 rfl rfl ?_
      refine ⟨fun w1 hs => RefR.put (rr1 := fun j => rr j ∨ rowB r1 j) hs 4 rfl hR2 (fun p' hp' => ?_) (fun j hj => hj.imp id (own_new hs 3 rfl j)) (by rw [putF_map, hps, hnm]) hs1 rfl⟩
      rcases putP_mem hp' with rfl | hp'
      · have := RdR.own hs 3 rfl hR1; rw [hv1] at this; exact this.mono fun j hj => .inr hj
      · exact (RdR.below hs.below hr (hrd p' hp')).mono fun j hj => .inl hj
end Go.Proofs.Ytdgkaboaapfnmaa
