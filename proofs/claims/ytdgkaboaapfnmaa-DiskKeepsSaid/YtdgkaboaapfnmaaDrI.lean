/- The reference's disk: Append, Crash: the walks. -/
import Derived.Test.YtdgkaboaapfnmaaDrH
namespace Go.Proofs.Ytdgkaboaapfnmaa
open Go.RowKit Go.Sx
set_option linter.unusedVariables false


set_option maxRecDepth 100000 in
set_option maxHeartbeats 2000000 in
theorem rappend_any (M : Dk) (fv : Value) (rr : Nat → Prop) (n x : List UInt8) (v : Value) (hn : n.length ≤ 1000000) (hx : x.length ≤ 1000000) (hfs : M.files.length ≤ 1000000) (hfz : ∀ f ∈ M.files, f.bs.length ≤ 16777216) (hu : usedD M.files ≤ 16777216) (hq : M.quota ≤ 16777216) (hst : M.steps ≤ 1000000) (hl : M.left ≤ 9223372036854775807) (w : World) (h : RFs rr w fv M.files) (hr : ∀ k, rr k → k < w.heap.size) (hv : Rd w v (Lib.byteCells x)) :
    Calls Try.prog 33 ([.agg (rdC M fv), VS n, v] : List Value).toArray w (RefR rr w (rappendD M n x).1 (rappendD M n x).2) := by
  have hvl : ∃ a c, v = .slice a x.length c := by obtain ⟨a, c, e, _⟩ := hv; exact ⟨a, c, by rw [e, Lib.byteCells_length]⟩
  obtain ⟨va, vc, rfl⟩ := hvl
  obtain ⟨ps, fa, fc, hps, rfl, hrd, hcell⟩ := h.pairs
  have hpl : ps.length = M.files.length := by rw [← hps]; simp
  have hsl : ∀ p ∈ ps, ∃ a l c, p.1 = .slice a l c := fun p hp => by obtain ⟨a, c, e⟩ := rdr_slice (hrd p hp); exact ⟨a, _, c, e⟩
  refine (enter tab_ok Try.func33 rfl Try.ntmps33 rfl (St.start w) (R := fun v w' => RefR rr w (rappendD M n x).1 (rappendD M n x).2 (.returned v) w') ?_).mono (fun e w' ⟨v, he, h⟩ => by rw [he]; exact h)
  intro b3 b6
  refine cv (rnamed_any n hn) ?_
  cases hnm : namedL n with
  | false =>
    have e1 : rappendD M n x = (M, 5) := if_pos hnm
    rw [e1]
    refine ct rfl ?_
    refine ldN 0 rfl rfl ?_
    refine sN 1 rfl rfl (rdC_one M rfl) ?_ (by kernel_rfl)
    refine ldN 1 rfl rfl ?_
    exact ⟨fun w1 hs => RefR.same hs hr h rfl rfl⟩
  | true =>
  refine cf rfl ?_
  refine dr [cl b3 (rdC M (.slice fa ps.length fc)) TR, cl b6 (rdC ⟨0, 0, false, false, 0, []⟩ (.slice none 0 0)) TR] 99 (.t 0 (.t 1 (.t 2 (.t 3 (.t 4 (.t 5 (.t 6 (.t 7 .nil)))))))) tab_ok mixed_ok (by kernel_rfl) (.cons (.cons .nil)) ?_
  refine ld1 0 rfl (v := .int .i64 M.quota) rfl ?_
  refine ldN 0 rfl rfl ?_
  refine czs (fun w1 hs => rused_any M _ M.files rr hfs (by omega) w1 (h.below hs.below hr)) ?_
  refine .as ((M.quota : Int) - usedD M.files) rfl (by simp only [mn]; omega) (by simp only [mx]; omega) ?_
  by_cases hfull : (M.quota : Int) - usedD M.files < x.length
  · have e1 : rappendD M n x = (M, 3) := by unfold rappendD; rw [if_neg (by rw [hnm]; decide), if_pos hfull]
    rw [e1]
    refine ct (decide_eq_true hfull) ?_
    refine ldN 0 rfl rfl ?_
    refine sN 1 rfl rfl (rdC_one M rfl) ?_ (by kernel_rfl)
    refine ldN 1 rfl rfl ?_
    exact ⟨fun w1 hs => RefR.same hs hr h rfl rfl⟩
  refine cf (decide_eq_false hfull) ?_
  have e1 : rappendD M n x = actD M (putF ⟨n, (match findF n M.files with | some f => f.bs | none => []) ++ x, match findF n M.files with | some f => f.sure | none => 0⟩ M.files) := by unfold rappendD; rw [if_neg (by rw [hnm]; decide), if_neg hfull]; rfl
  rw [e1]
  refine ldN 0 rfl rfl ?_
  refine cv (rstep_any M _ _ _ hst hl) ?_
  refine sN 0 rfl rfl (rdC_one (stepD M).2 rfl) ?_ (by kernel_rfl)
  cases hs1 : (stepD M).1 with
  | false =>
    rw [act_off hs1]
    refine ct rfl ?_
    refine ldN 0 rfl rfl ?_
    refine sN 1 rfl rfl (rdC_one (stepD M).2 rfl) ?_ (by kernel_rfl)
    refine ldN 1 rfl rfl ?_
    exact ⟨fun w1 hs => RefR.same hs hr h (stepD_files M) rfl⟩
  | true =>
  refine cf rfl ?_
  refine bu (c := #[VS n, .slice none 0 0, .int .i64 0]) (by kernel_rfl) ?_
  intro b9
  refine sN 2 rfl rfl rfl ?_ (by kernel_rfl)
  refine ldN 0 rfl rfl ?_
  refine cvs (fun w1 hs => rat_any _ _ M.files rr n hfs w1 (h.below hs.below hr)) ?_
  rcases at_find n M.files with ⟨hf1, hf2⟩ | ⟨i, f, hf0, hf1, hf2⟩
  · rw [hf2, hf1]
    refine cf rfl ?_
    have hSf : ∀ w', Below w.heap.size w w' → Src Try.prog 1 31 (.slice none 0 0) (Lib.byteCells []).length (Lib.byteCells []) w' := fun w' hb => Rd.src (rd_nil w' none 0) und22 (one8 _)
    have hbl := Lib.byteCells_length ([])
    have hz0 : ([] : List UInt8).length ≤ 16777216 := by first | exact hbz | exact Nat.zero_le _
    have hbx := Lib.byteCells_length x
    refine .mk _ _ bsl0 (fun b10 => ?_)
    refine ld1 2 rfl rfl ?_
    refine ap (r := some (b10, 0, [])) (xs := []) (n := 0) (m := (Lib.byteCells ([])).length) (news := Lib.byteCells ([])) 3 tab_ok rfl info5 rfl rfl ⟨rfl, Nat.le_refl _, by unfold maxLen; omega, rfl⟩ (fun w' hs => hSf w' hs.below) (by omega) (by unfold maxLen; omega) (fun r1 hR1 => ?_)
    rw [List.nil_append, Nat.zero_add] at hR1
    rw [List.nil_append, Nat.zero_add]
    refine ap (r := r1) (xs := Lib.byteCells ([])) (n := (Lib.byteCells ([])).length) (m := (Lib.byteCells x).length) (news := Lib.byteCells x) 3 tab_ok rfl info5 rfl rfl hR1 (fun w' hs => (hv.below hs.below).src und22 (one8 x)) (by omega) (by unfold maxLen; omega) (fun r2 hR2 => ?_)
    have hcat : Lib.byteCells ([]) ++ Lib.byteCells x = Lib.byteCells ([] ++ x) := (Lib.byteCells_append _ _).symm
    have hlen : (Lib.byteCells ([])).length + (Lib.byteCells x).length = (Lib.byteCells ([] ++ x)).length := by rw [← hcat, List.length_append]
    rw [hcat, hlen] at hR2
    rw [hcat, hlen]
    obtain ⟨a1, c1, hv1⟩ := rw_slice hR2
    rw [hv1]
    refine s1 2 rfl (show 1 < 3 by decide) ?_
    refine ld1 0 rfl (v := .slice (fa) ps.length fc) rfl ?_
    refine ldN 2 rfl rfl ?_
    refine co (n := (putP (.slice a1 (Lib.byteCells ([] ++ x)).length c1, ⟨n, [] ++ x, 0⟩) ps).length) (z := 3) (xs := rfC (putP (.slice a1 (Lib.byteCells ([] ++ x)).length c1, ⟨n, [] ++ x, 0⟩) ps)) (e := TFi) (fun w1 hs => put_any _ fc ps (.slice a1 (Lib.byteCells ([] ++ x)).length c1, ⟨n, [] ++ x, 0⟩) a1 (Lib.byteCells ([] ++ x)).length c1 rfl hsl (by omega) w1 (cells_at hs hcell)) (fun r3 hR3 => ?_)
    refine s1 0 rfl (show 5 < 6 by decide) ?_ (h1 := by cases r3 <;> rfl) (hv := by cases r3 <;> rfl)
    refine ldN 0 rfl rfl ?_
    refine sN 1 rfl rfl (rdC_one (stepD M).2 (by cases r3 <;> rfl)) ?_ (by kernel_rfl)
    refine ldN 1 rfl rfl ?_
    refine ⟨fun w1 hs => RefR.put (rr1 := fun j => rr j ∨ rowB r2 j) hs 4 rfl hR3 (fun p' hp' => ?_) (fun j hj => hj.imp id (own_new hs 3 rfl j)) (by rw [putF_map, hps]; first | done | rfl) hs1 rfl⟩
    rcases putP_mem hp' with rfl | hp'
    · have := RdR.own hs 3 rfl hR2; rw [hv1] at this; exact this.mono fun j hj => .inr hj
    · exact (RdR.below hs.below hr (hrd p' hp')).mono fun j hj => .inl hj
  · rw [hf2, hf1]
    refine ct (decide_eq_true (by omega)) ?_
    have hfm := findF_mem hf1
    have hil : i < ps.length := by rw [hpl]; exact (List.getElem?_eq_some_iff.1 hf0).1
    obtain ⟨p, hp⟩ : ∃ p, p = ps[i] := ⟨_, rfl⟩
    have hpf : p.2 = f := by
      have h9 : M.files[i]? = some p.2 := by rw [← hps, hp]; simp [hil]
      exact Option.some.inj (h9.symm.trans hf0)
    have hpm : p ∈ ps := hp ▸ List.getElem_mem hil
    have hpr := hrd p hpm
    obtain ⟨qa, qc, hq⟩ := rdr_slice hpr
    rw [hpf] at hq hpr
    obtain ⟨fb, fo, hfa, hfb, _, hfc⟩ := hcell (by intro e; rw [e] at hil; simp at hil)
    subst hfa
    obtain ⟨c1, c2, c3⟩ := rfC_get ps i hil
    rw [← hp, hpf] at c1 c3
    rw [← hp, hq] at c2
    have hcells : ∀ j u, (#[VS f.name, .slice qa f.bs.length qc, .int .i64 f.sure] : Array Value)[j]? = some u → w.cell? ⟨fb, fo + i * 3 + j, none⟩ = some u := by
      intro j u hu
      rw [Nat.add_assoc]
      refine hfc _ _ ?_
      rcases j with _ | _ | _ | j
      · exact c1.trans hu
      · exact c2.trans hu
      · exact c3.trans hu
      · simp at hu
    have hbz := hfz f hfm.1
    have hnm2 : f.name = n := hfm.2
    rw [hq] at hpr
    rw [hnm2] at hcells
    refine ld1 0 rfl (v := .slice (some ⟨fb, fo, none⟩) ps.length fc) rfl ?_
    refine ⟨by omega, by (try simp only); omega, ?_⟩
    refine ldoN (d := #[VS n, .slice qa f.bs.length qc, .int .i64 f.sure]) (fun j u hu => by rw [nad_eq, nmu_eq, Int.toNat_natCast]; exact hcells j u hu) hfb rfl ?_
    refine sN 2 rfl rfl rfl ?_ (by kernel_rfl)
    have hSf : ∀ w', Below w.heap.size w w' → Src Try.prog 1 31 (.slice qa f.bs.length qc) (Lib.byteCells f.bs).length (Lib.byteCells f.bs) w' := fun w' hb => Rd.src (RdR.below hb hr hpr).rd und22 (one8 _)
    have hbl := Lib.byteCells_length (f.bs)
    have hz0 : (f.bs : List UInt8).length ≤ 16777216 := by first | exact hbz | exact Nat.zero_le _
    have hbx := Lib.byteCells_length x
    refine .mk _ _ bsl0 (fun b10 => ?_)
    refine ld1 2 rfl rfl ?_
    refine ap (r := some (b10, 0, [])) (xs := []) (n := 0) (m := (Lib.byteCells (f.bs)).length) (news := Lib.byteCells (f.bs)) 3 tab_ok rfl info5 rfl rfl ⟨rfl, Nat.le_refl _, by unfold maxLen; omega, rfl⟩ (fun w' hs => hSf w' hs.below) (by omega) (by unfold maxLen; omega) (fun r1 hR1 => ?_)
    rw [List.nil_append, Nat.zero_add] at hR1
    rw [List.nil_append, Nat.zero_add]
    refine ap (r := r1) (xs := Lib.byteCells (f.bs)) (n := (Lib.byteCells (f.bs)).length) (m := (Lib.byteCells x).length) (news := Lib.byteCells x) 3 tab_ok rfl info5 rfl rfl hR1 (fun w' hs => (hv.below hs.below).src und22 (one8 x)) (by omega) (by unfold maxLen; omega) (fun r2 hR2 => ?_)
    have hcat : Lib.byteCells (f.bs) ++ Lib.byteCells x = Lib.byteCells (f.bs ++ x) := (Lib.byteCells_append _ _).symm
    have hlen : (Lib.byteCells (f.bs)).length + (Lib.byteCells x).length = (Lib.byteCells (f.bs ++ x)).length := by rw [← hcat, List.length_append]
    rw [hcat, hlen] at hR2
    rw [hcat, hlen]
    obtain ⟨a1, c1, hv1⟩ := rw_slice hR2
    rw [hv1]
    refine s1 2 rfl (show 1 < 3 by decide) ?_
    refine ld1 0 rfl (v := .slice (some ⟨fb, fo, none⟩) ps.length fc) rfl ?_
    refine ldN 2 rfl rfl ?_
    refine co (n := (putP (.slice a1 (Lib.byteCells (f.bs ++ x)).length c1, ⟨n, f.bs ++ x, f.sure⟩) ps).length) (z := 3) (xs := rfC (putP (.slice a1 (Lib.byteCells (f.bs ++ x)).length c1, ⟨n, f.bs ++ x, f.sure⟩) ps)) (e := TFi) (fun w1 hs => put_any _ fc ps (.slice a1 (Lib.byteCells (f.bs ++ x)).length c1, ⟨n, f.bs ++ x, f.sure⟩) a1 (Lib.byteCells (f.bs ++ x)).length c1 rfl hsl (by omega) w1 (cells_at hs hcell)) (fun r3 hR3 => ?_)
    refine s1 0 rfl (show 5 < 6 by decide) ?_ (h1 := by cases r3 <;> rfl) (hv := by cases r3 <;> rfl)
    refine ldN 0 rfl rfl ?_
    refine sN 1 rfl rfl (rdC_one (stepD M).2 (by cases r3 <;> rfl)) ?_ (by kernel_rfl)
    refine ldN 1 rfl rfl ?_
    refine ⟨fun w1 hs => RefR.put (rr1 := fun j => rr j ∨ rowB r2 j) hs 4 rfl hR3 (fun p' hp' => ?_) (fun j hj => hj.imp id (own_new hs 3 rfl j)) (by rw [putF_map, hps]; first | done | rfl) hs1 rfl⟩
    rcases putP_mem hp' with rfl | hp'
    · have := RdR.own hs 3 rfl hR2; rw [hv1] at this; exact this.mono fun j hj => .inr hj
    · exact (RdR.below hs.below hr (hrd p' hp')).mono fun j hj => .inl hj
end Go.Proofs.Ytdgkaboaapfnmaa
