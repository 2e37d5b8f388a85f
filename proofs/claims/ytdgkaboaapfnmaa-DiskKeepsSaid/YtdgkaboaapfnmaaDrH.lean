/- The reference's disk: Rename, Read: the walks. -/
import Derived.Test.YtdgkaboaapfnmaaDrG
namespace Go.Proofs.Ytdgkaboaapfnmaa
open Go.RowKit Go.Sx
set_option linter.unusedVariables false


theorem own_cells {w : World} {L : List Ent} {M : Bks} {B : World} (hs : St M B w L) (k : Nat) {r : Sx.Own} {ps : List PF} {a : Option Addr} {c : Nat} (hk : L[k]? = some (se r (rfC ps) TFi)) (hR : Rw 3 ps.length r (rfC ps)) (hv : sv r ps.length = .slice a ps.length c) :
    ps ≠ [] → ∃ b o, a = some ⟨b, o, none⟩ ∧ b < w.heap.size ∧ ∀ j x, (rfC ps)[j]? = some x → w.cell? ⟨b, o + j, none⟩ = some x := by
  intro hne
  cases r with
  | none => exact absurd (List.eq_nil_of_length_eq_zero hR.2) hne
  | some q =>
    obtain ⟨b, c', j⟩ := q
    injection hv with e1 e2 e3
    subst e1
    refine ⟨b, 0, rfl, hs.lt (List.mem_of_getElem? hk) rfl, fun i x hx => ?_⟩
    rw [hs.cell (k := k) (b := b) hk (0 + i), Nat.zero_add]
    have hi := (List.getElem?_eq_some_iff.1 hx).1
    simp [List.getElem?_append_left hi, hx]
set_option maxRecDepth 100000 in
set_option maxHeartbeats 2000000 in
theorem rrename_any (M : Dk) (fv : Value) (rr : Nat → Prop) (n m : List UInt8) (hm : m.length ≤ 1000000) (hfs : M.files.length ≤ 1000000) (hst : M.steps ≤ 1000000) (hl : M.left ≤ 9223372036854775807) (w : World) (h : RFs rr w fv M.files) (hr : ∀ k, rr k → k < w.heap.size) :
    Calls Try.prog 36 ([.agg (rdC M fv), VS n, VS m] : List Value).toArray w (RefR rr w (rrenameD M n m).1 (rrenameD M n m).2) := by
  obtain ⟨ps, fa, fc, hps, rfl, hrd, hcell⟩ := h.pairs
  have hpl : ps.length = M.files.length := by rw [← hps]; simp
  have hsl : ∀ p ∈ ps, ∃ a l c, p.1 = .slice a l c := fun p hp => by obtain ⟨a, c, e⟩ := rdr_slice (hrd p hp); exact ⟨a, _, c, e⟩
  refine (enter tab_ok Try.func36 rfl Try.ntmps36 rfl (St.start w) (R := fun v w' => RefR rr w (rrenameD M n m).1 (rrenameD M n m).2 (.returned v) w') ?_).mono (fun e w' ⟨v, he, h⟩ => by rw [he]; exact h)
  intro b3 b6
  refine ldN 0 rfl rfl ?_
  refine cvs (fun w1 hs => rat_any M _ M.files rr n hfs w1 (h.below hs.below hr)) ?_
  rcases at_find n M.files with ⟨hf1, hf2⟩ | ⟨i, f, hf0, hf1, hf2⟩
  · rw [hf2]
    have e1 : rrenameD M n m = (M, 5) := by unfold rrenameD; rw [hf1]
    rw [e1]
    iterate 3 refine cf rfl ?_
    refine ct rfl ?_
    refine ct rfl ?_
    refine ldN 0 rfl rfl ?_
    refine sN 1 rfl rfl (rdC_one M rfl) ?_ (by kernel_rfl)
    refine ldN 1 rfl rfl ?_
    exact ⟨fun w1 hs => RefR.same hs hr h rfl rfl⟩
  rw [hf2]
  have f1 := decide_eq_false (show ¬ ((i : Nat) : Int) < 0 by omega)
  have f2 : (decide (((i : Nat) : Int) < 0) == false) = true := by rw [f1]; rfl
  iterate 2 refine ct f2 ?_
  refine cv (rnamed_any m hm) ?_
  refine ct f2 ?_
  refine cf f1 ?_
  cases hnm : namedL m with
  | false =>
    have e1 : rrenameD M n m = (M, 5) := by unfold rrenameD; rw [hf1]; exact if_pos hnm
    rw [e1]
    refine ct rfl ?_
    refine ldN 0 rfl rfl ?_
    refine sN 1 rfl rfl (rdC_one M rfl) ?_ (by kernel_rfl)
    refine ldN 1 rfl rfl ?_
    exact ⟨fun w1 hs => RefR.same hs hr h rfl rfl⟩
  | true =>
  have e1 : rrenameD M n m = actD M (putF ⟨m, f.bs, f.bs.length⟩ (woF n M.files)) := by unfold rrenameD; rw [hf1]; exact if_neg (by rw [hnm]; decide)
  rw [e1]
  refine cf rfl ?_
  have hfm := findF_mem hf1
  have hil : i < ps.length := by rw [hpl]; exact (List.getElem?_eq_some_iff.1 hf0).1
  obtain ⟨p, hp⟩ : ∃ p, p = ps[i] := ⟨_, rfl⟩
  have hpf : p.2 = f := by
    have h9 : M.files[i]? = some p.2 := by rw [← hps, hp]; simp [hil]
    exact Option.some.inj (h9.symm.trans hf0)
  have hpm : p ∈ ps := hp ▸ List.getElem_mem hil
  have hpr := hrd p hpm
  obtain ⟨qa, qc, hq⟩ := rdr_slice hpr
  rw [hpf] at hq hpr
  obtain ⟨fb, fo, hfa, hfb, _, hfc⟩ := hcell (by intro e; rw [e] at hil; simp at hil)
  subst hfa
  obtain ⟨c1, c2, c3⟩ := rfC_get ps i hil
  rw [← hp, hpf] at c1 c3
  rw [← hp, hq] at c2
  have hcells : ∀ j u, (#[VS f.name, .slice qa f.bs.length qc, .int .i64 f.sure] : Array Value)[j]? = some u → w.cell? ⟨fb, fo + i * 3 + j, none⟩ = some u := by
    intro j u hu
    rw [Nat.add_assoc]
    refine hfc _ _ ?_
    rcases j with _ | _ | _ | j
    · exact c1.trans hu
    · exact c2.trans hu
    · exact c3.trans hu
    · simp at hu
  refine ldN 0 rfl rfl ?_
  refine cv (rstep_any M _ _ _ hst hl) ?_
  refine sN 0 rfl rfl (rdC_one (stepD M).2 rfl) ?_ (by kernel_rfl)
  cases hs1 : (stepD M).1 with
  | false =>
    rw [act_off hs1]
    refine ct rfl ?_
    refine ldN 0 rfl rfl ?_
    refine sN 1 rfl rfl (rdC_one (stepD M).2 rfl) ?_ (by kernel_rfl)
    refine ldN 1 rfl rfl ?_
    exact ⟨fun w1 hs => RefR.same hs hr h (stepD_files M) rfl⟩
  | true =>
  refine cf rfl ?_
  refine ld1 0 rfl (v := .slice (some ⟨fb, fo, none⟩) ps.length fc) rfl ?_
  refine ⟨by omega, by (try simp only); omega, ?_⟩
  refine ldoN (d := #[VS f.name, .slice qa f.bs.length qc, .int .i64 f.sure]) (fun j u hu => by rw [nad_eq, nmu_eq, Int.toNat_natCast]; exact hcells j u hu) hfb rfl ?_
  intro b10
  refine sN 2 rfl rfl rfl ?_ (by kernel_rfl)
  refine s1 2 rfl (show 0 < 3 by decide) ?_
  refine ld1 2 rfl (v := .slice qa f.bs.length qc) rfl ?_
  refine s1 2 rfl (show 2 < 3 by decide) ?_
  refine dr [cl b3 (rdC (stepD M).2 (.slice (some ⟨fb, fo, none⟩) ps.length fc)) TR, cl b6 (rdC ⟨0, 0, false, false, 0, []⟩ (.slice none 0 0)) TR, cl b10 #[VS m, .slice qa f.bs.length qc, .int .i64 f.bs.length] TFi] 7 (.t 0 (.t 1 (.t 2 (.t 4 (.n 3 (.n 5 (.t 6 (.n 7 .nil)))))))) tab_ok mixed_ok (by kernel_rfl) (.cons (.cons (.cons .nil))) ?_
  refine ld1 0 rfl (v := .slice (some ⟨fb, fo, none⟩) ps.length fc) rfl ?_
  refine ldN 2 rfl rfl ?_
  refine co (n := (woP n ps).length) (z := 3) (xs := rfC (woP n ps)) (e := TFi) (fun w1 hs => without_any _ fc ps n hsl (by omega) w1 (cells_at hs hcell)) (fun r1 hR1 => ?_)
  obtain ⟨a1, c1, hv1⟩ := rw_slice hR1
  rw [hv1]
  refine ⟨.cons (.cons (.cons .nil)), ?_⟩
  have hwl := woP_len n ps
  refine co (n := (putP (.slice qa f.bs.length qc, ⟨m, f.bs, f.bs.length⟩) (woP n ps)).length) (z := 3) (xs := rfC (putP (.slice qa f.bs.length qc, ⟨m, f.bs, f.bs.length⟩) (woP n ps))) (e := TFi) (fun w1 hs => put_any _ c1 (woP n ps) (.slice qa f.bs.length qc, ⟨m, f.bs, f.bs.length⟩) qa f.bs.length qc rfl (fun p hp => hsl p (woP_mem hp)) (by omega) w1 (own_cells hs 3 rfl hR1 hv1)) (fun r2 hR2 => ?_)
  refine ⟨.cons (.cons (.cons .nil)), ?_⟩
  refine s1 0 rfl (show 5 < 6 by decide) ?_ (h1 := by cases r2 <;> rfl) (hv := by cases r2 <;> rfl)
  refine ldN 0 rfl rfl ?_
  refine sN 1 rfl rfl (rdC_one (stepD M).2 (by cases r2 <;> rfl)) ?_ (by kernel_rfl)
  refine ldN 1 rfl rfl ?_
  refine ⟨fun w1 hs => RefR.put (rr1 := rr) hs 4 rfl hR2 (fun p' hp' => ?_) (fun _ h => .inl h) (by rw [putF_map, woF_map, hps]) hs1 rfl⟩
  rcases putP_mem hp' with rfl | hp'
  · rw [hq] at hpr; exact RdR.below hs.below hr hpr
  · exact RdR.below hs.below hr (hrd p' (woP_mem hp'))
theorem readN (D : Dk) (n : List UInt8) (h : D.gone = false) {f : Fe} (hf : findF n D.files = some f) : readD D n = (f.bs, 0) := by unfold readD; rw [if_neg (by rw [h]; decide), hf]
set_option maxRecDepth 100000 in
set_option maxHeartbeats 2000000 in
theorem rread_any (M : Dk) (fv : Value) (rr : Nat → Prop) (n : List UInt8) (hfs : M.files.length ≤ 1000000) (hfz : ∀ f ∈ M.files, f.bs.length ≤ 16777216) (w : World) (h : RFs rr w fv M.files) (hr : ∀ k, rr k → k < w.heap.size) :
    Calls Try.prog 39 ([.agg (rdC M fv), VS n] : List Value).toArray w fun e w' => ∃ r, e = .returned (.tuple #[sv r (readD M n).1.length, .int .i64 (readD M n).2]) ∧ Rw 1 (readD M n).1.length r (Lib.byteCells (readD M n).1) ∧ Made w w' r (Lib.byteCells (readD M n).1) 5 ∧ Below w.heap.size w w' := by
  obtain ⟨ps, fa, fc, hps, rfl, hrd, hcell⟩ := h.pairs
  have hpl : ps.length = M.files.length := by rw [← hps]; simp
  refine (enter tab_ok Try.func39 rfl Try.ntmps39 rfl (St.start w) (R := fun v w' => ∃ r, v = .tuple #[sv r (readD M n).1.length, .int .i64 (readD M n).2] ∧ Rw 1 (readD M n).1.length r (Lib.byteCells (readD M n).1) ∧ Made w w' r (Lib.byteCells (readD M n).1) 5 ∧ Below w.heap.size w w') ?_).mono (fun e w' ⟨v, he, r, hv, h⟩ => ⟨r, by rw [he, hv], h⟩)
  intro b2
  refine ld1 0 rfl (v := .bool M.gone) rfl ?_
  cases hg : M.gone with
  | true =>
    have e1 : readD M n = ([], 4) := if_pos hg
    rw [e1]
    refine ct rfl ?_
    exact ⟨fun w1 hs => ⟨none, rfl, Rw.nil 1, (fun b c j e => by cases e), hs.below⟩⟩
  | false =>
  refine cf rfl ?_
  refine ldN 0 rfl rfl ?_
  refine cvs (fun w1 hs => rat_any M _ M.files rr n hfs w1 (h.below hs.below hr)) ?_
  rcases at_find n M.files with ⟨hf1, hf2⟩ | ⟨i, f, hf0, hf1, hf2⟩
  · rw [hf2]
    have e1 : readD M n = ([], 5) := by unfold readD; rw [if_neg (by rw [hg]; decide), hf1]
    rw [e1]
    refine ct rfl ?_
    exact ⟨fun w1 hs => ⟨none, rfl, Rw.nil 1, (fun b c j e => by cases e), hs.below⟩⟩
  · rw [hf2]
    refine cf (decide_eq_false (by omega)) ?_
    rw [readN M n hg hf1]
    have hfm := findF_mem hf1
    have hil : i < ps.length := by rw [hpl]; exact (List.getElem?_eq_some_iff.1 hf0).1
    obtain ⟨p, hp⟩ : ∃ p, p = ps[i] := ⟨_, rfl⟩
    have hpf : p.2 = f := by
      have h9 : M.files[i]? = some p.2 := by rw [← hps, hp]; simp [hil]
      exact Option.some.inj (h9.symm.trans hf0)
    have hpm : p ∈ ps := hp ▸ List.getElem_mem hil
    have hpr := hrd p hpm
    obtain ⟨qa, qc, hq⟩ := rdr_slice hpr
    rw [hpf] at hq hpr
    obtain ⟨fb, fo, hfa, hfb, _, hfc⟩ := hcell (by intro e; rw [e] at hil; simp at hil)
    subst hfa
    obtain ⟨c1, c2, c3⟩ := rfC_get ps i hil
    rw [← hp, hpf] at c1 c3
    rw [← hp, hq] at c2
    have hcells : ∀ j u, (#[VS f.name, .slice qa f.bs.length qc, .int .i64 f.sure] : Array Value)[j]? = some u → w.cell? ⟨fb, fo + i * 3 + j, none⟩ = some u := by
      intro j u hu
      rw [Nat.add_assoc]
      refine hfc _ _ ?_
      rcases j with _ | _ | _ | j
      · exact c1.trans hu
      · exact c2.trans hu
      · exact c3.trans hu
      · simp at hu
    have hbz := hfz f hfm.1
    rw [hq] at hpr
    refine .mk _ _ bsl0 (fun b10 => ?_)
    refine ld1 0 rfl (v := .slice (some ⟨fb, fo, none⟩) ps.length fc) rfl ?_
    refine ⟨by omega, by (try simp only); omega, ?_⟩
    refine ldo (v := .slice qa f.bs.length qc) (by rw [nad_eq, nad_eq, nmu_eq, Int.toNat_natCast]; exact hcells 1 _ rfl) hfb ?_
    have hbl := Lib.byteCells_length f.bs
    have hRd : ∀ w', Below w.heap.size w w' → Src Try.prog 1 31 (.slice qa f.bs.length qc) (Lib.byteCells f.bs).length (Lib.byteCells f.bs) w' := fun w' hb => Rd.src (RdR.below hb hr hpr).rd und22 (one8 _)
    rw [hbl] at hRd
    refine ap (r := some (b10, 0, [])) (xs := []) (n := 0) (m := f.bs.length) (news := Lib.byteCells f.bs) 1 tab_ok rfl info5 rfl rfl ⟨rfl, Nat.le_refl _, by unfold maxLen; omega, rfl⟩ (fun w' hs => hRd w' hs.below) (by omega) (by unfold maxLen; omega) (fun r1 hR1 => ?_)
    rw [List.nil_append, Nat.zero_add] at *
    exact ⟨fun w1 hs => ⟨r1, rfl, hR1, made_of hs rfl 1 rfl, hs.below⟩⟩
end Go.Proofs.Ytdgkaboaapfnmaa
