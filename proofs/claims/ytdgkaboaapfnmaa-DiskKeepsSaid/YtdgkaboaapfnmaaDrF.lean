/- The reference's disk: Append, Sync, Cut, Rename, Drop: the walks. -/
import Derived.Test.YtdgkaboaapfnmaaDrE
namespace Go.Proofs.Ytdgkaboaapfnmaa
open Go.RowKit Go.Sx
set_option linter.unusedVariables false

def rappendD (M : Dk) (n x : List UInt8) : Dk × Nat :=
  if namedL n = false then (M, 5) else if (M.quota : Int) - usedD M.files < x.length then (M, 3) else
  actD M (putF ⟨n, (match findF n M.files with | some f => f.bs | none => []) ++ x, match findF n M.files with | some f => f.sure | none => 0⟩ M.files)
def rsyncD (M : Dk) (n : List UInt8) : Dk × Nat := match findF n M.files with
  | none => (M, 5)
  | some f => actD M (putF ⟨n, f.bs, f.bs.length⟩ M.files)
def rcutD (M : Dk) (n : List UInt8) (size : Int) : Dk × Nat := match findF n M.files with
  | none => (M, 5)
  | some f => if size < 0 ∨ (f.bs.length : Int) < size then (M, 2) else actD M (putF ⟨n, f.bs.take size.toNat, min f.sure size.toNat⟩ M.files)
def rrenameD (M : Dk) (n m : List UInt8) : Dk × Nat := match findF n M.files with
  | none => (M, 5)
  | some f => if namedL m = false then (M, 5) else actD M (putF ⟨m, f.bs, f.bs.length⟩ (woF n M.files))
def rdropD (M : Dk) (n : List UInt8) : Dk × Nat := match findF n M.files with
  | none => (M, 5)
  | some _ => actD M (woF n M.files)
theorem sv_slice (r : Sx.Own) (n : Nat) : ∃ a c, (r = none → n = 0) → sv r n = .slice a n c := by
  cases r with
  | none => exact ⟨none, 0, fun h => by rw [h rfl]; rfl⟩
  | some p => obtain ⟨b, c, j⟩ := p; exact ⟨some ⟨b, 0, none⟩, c, fun _ => rfl⟩
theorem rw_slice {z n : Nat} {r : Sx.Own} {xs : List Value} (h : Rw z n r xs) : ∃ a c, sv r n = .slice a n c := by
  obtain ⟨a, c, hh⟩ := sv_slice r n
  exact ⟨a, c, hh fun e => by subst e; exact h.2⟩
theorem act_off {M : Dk} (h : (stepD M).1 = false) (fs : List Fe) : actD M fs = ((stepD M).2, 4) := if_neg (by rw [h]; decide)
theorem act_on {M : Dk} (h : (stepD M).1 = true) (fs : List Fe) : actD M fs = ({ (stepD M).2 with files := fs }, 0) := if_pos h
/-- the last steps: the files that were put stand in the disk -/
theorem RefR.put {rr : Nat → Prop} {w w1 : World} {L : List Ent} (hs : St [] w w1 L) {M : Dk} (k : Nat) {r : Sx.Own} {ps : List PF} {rr1 : Nat → Prop} (hk : L[k]? = some (se r (rfC ps) TFi)) (hR : Rw 3 ps.length r (rfC ps)) (hp : ∀ p ∈ ps, RdR rr1 w1 p.1 (Lib.byteCells p.2.bs)) (hr1 : ∀ j, rr1 j → rr j ∨ w.heap.size ≤ j)
    {fs : List Fe} (hfs : ps.map (·.2) = fs) (hst : (stepD M).1 = true) {v : Value} (hv : v = .tuple #[.agg (rdC (stepD M).2 (sv r ps.length)), .int .i64 0]) : RefR rr w (actD M fs).1 (actD M fs).2 (.returned v) w1 := by
  rw [act_on hst]
  refine ⟨sv r ps.length, fun j => rr1 j ∨ rowB r j, by rw [hv]; rfl, hs.below, by subst hfs; exact RFs.own hs k hk hR hp, fun j hj => ?_⟩
  rcases hj with h | h
  · exact hr1 j h
  · exact .inr (own_new hs k hk j h)
theorem cells_at {w w1 : World} {L : List Ent} (hs : St [] w w1 L) {ps : List PF} {fa : Option Addr} {rr : Nat → Prop} (h : ps ≠ [] → ∃ b o, fa = some ⟨b, o, none⟩ ∧ b < w.heap.size ∧ rr b ∧ ∀ j x, (rfC ps)[j]? = some x → w.cell? ⟨b, o + j, none⟩ = some x) :
    ps ≠ [] → ∃ b o, fa = some ⟨b, o, none⟩ ∧ b < w1.heap.size ∧ ∀ j x, (rfC ps)[j]? = some x → w1.cell? ⟨b, o + j, none⟩ = some x := fun hne => by
  obtain ⟨b, o, e, hb, _, hc⟩ := h hne
  exact ⟨b, o, e, Nat.lt_of_lt_of_le hb hs.size, fun j x hx => (hs.below.cell (p := ⟨b, o + j, none⟩) hb).trans (hc j x hx)⟩
theorem RdR.below {rr : Nat → Prop} {w w1 : World} {v : Value} {xs : List Value} (hb : Below w.heap.size w w1) (hr : ∀ k, rr k → k < w.heap.size) (h : RdR rr w v xs) : RdR rr w1 v xs := h.same fun k hk => hb.block k (hr k hk)
set_option maxRecDepth 100000 in
set_option maxHeartbeats 2000000 in
theorem rsync_any (M : Dk) (fv : Value) (rr : Nat → Prop) (n : List UInt8) (hfs : M.files.length ≤ 1000000) (hst : M.steps ≤ 1000000) (hl : M.left ≤ 9223372036854775807) (w : World) (h : RFs rr w fv M.files) (hr : ∀ k, rr k → k < w.heap.size) :
    Calls Try.prog 34 ([.agg (rdC M fv), VS n] : List Value).toArray w (RefR rr w (rsyncD M n).1 (rsyncD M n).2) := by
  obtain ⟨ps, fa, fc, hps, rfl, hrd, hcell⟩ := h.pairs
  have hpl : ps.length = M.files.length := by rw [← hps]; simp
  have hsl : ∀ p ∈ ps, ∃ a l c, p.1 = .slice a l c := fun p hp => by obtain ⟨a, c, e⟩ := rdr_slice (hrd p hp); exact ⟨a, _, c, e⟩
  refine (enter tab_ok Try.func34 rfl Try.ntmps34 rfl (St.start w) (R := fun v w' => RefR rr w (rsyncD M n).1 (rsyncD M n).2 (.returned v) w') ?_).mono (fun e w' ⟨v, he, h⟩ => by rw [he]; exact h)
  intro b3 b6
  refine ldN 0 rfl rfl ?_
  refine cvs (fun w1 hs => rat_any M _ M.files rr n hfs w1 (h.below hs.below hr)) ?_
  rcases at_find n M.files with ⟨hf1, hf2⟩ | ⟨i, f, hf0, hf1, hf2⟩
  · rw [hf2]
    have e1 : rsyncD M n = (M, 5) := by unfold rsyncD; rw [hf1]
    rw [e1]
    refine ct rfl ?_
    refine ldN 0 rfl rfl ?_
    refine sN 1 rfl rfl (rdC_one M rfl) ?_ (by kernel_rfl)
    refine ldN 1 rfl rfl ?_
    exact ⟨fun w1 hs => RefR.same hs hr h rfl rfl⟩
  rw [hf2]
  refine cf (decide_eq_false (by omega)) ?_
  have e1 : rsyncD M n = actD M (putF ⟨n, f.bs, f.bs.length⟩ M.files) := by unfold rsyncD; rw [hf1]
  rw [e1]
  have hfm := findF_mem hf1
  have hil : i < ps.length := by rw [hpl]; exact (List.getElem?_eq_some_iff.1 hf0).1
  obtain ⟨p, hp⟩ : ∃ p, p = ps[i] := ⟨_, rfl⟩
  have hpf : p.2 = f := by
    have h9 : M.files[i]? = some p.2 := by rw [← hps, hp]; simp [hil]
    exact Option.some.inj (h9.symm.trans hf0)
  have hpm : p ∈ ps := hp ▸ List.getElem_mem hil
  have hpr := hrd p hpm
  obtain ⟨qa, qc, hq⟩ := rdr_slice hpr
  rw [hpf] at hq hpr
  obtain ⟨fb, fo, hfa, hfb, _, hfc⟩ := hcell (by intro e; rw [e] at hil; simp at hil)
  subst hfa
  obtain ⟨c1, c2, c3⟩ := rfC_get ps i hil
  rw [← hp, hpf] at c1 c3
  rw [← hp, hq] at c2
  have hcells : ∀ j u, (#[VS f.name, .slice qa f.bs.length qc, .int .i64 f.sure] : Array Value)[j]? = some u → w.cell? ⟨fb, fo + i * 3 + j, none⟩ = some u := by
    intro j u hu
    rw [Nat.add_assoc]
    refine hfc _ _ ?_
    rcases j with _ | _ | _ | j
    · exact c1.trans hu
    · exact c2.trans hu
    · exact c3.trans hu
    · simp at hu
  refine ldN 0 rfl rfl ?_
  refine cv (rstep_any M _ _ _ hst hl) ?_
  refine sN 0 rfl rfl (rdC_one (stepD M).2 rfl) ?_ (by kernel_rfl)
  cases hs1 : (stepD M).1 with
  | false =>
    rw [act_off hs1]
    refine ct rfl ?_
    refine ldN 0 rfl rfl ?_
    refine sN 1 rfl rfl (rdC_one (stepD M).2 rfl) ?_ (by kernel_rfl)
    refine ldN 1 rfl rfl ?_
    exact ⟨fun w1 hs => RefR.same hs hr h (stepD_files M) rfl⟩
  | true =>
  refine cf rfl ?_
  refine ld1 0 rfl (v := .slice (some ⟨fb, fo, none⟩) ps.length fc) rfl ?_
  refine ⟨by omega, by (try simp only); omega, ?_⟩
  refine ldoN (d := #[VS f.name, .slice qa f.bs.length qc, .int .i64 f.sure]) (fun j u hu => by rw [nad_eq, nmu_eq, Int.toNat_natCast]; exact hcells j u hu) hfb rfl ?_
  intro b8
  refine sN 2 rfl rfl rfl ?_ (by kernel_rfl)
  refine ld1 2 rfl (v := .slice qa f.bs.length qc) rfl ?_
  refine s1 2 rfl (show 2 < 3 by decide) ?_
  refine ld1 0 rfl (v := .slice (some ⟨fb, fo, none⟩) ps.length fc) rfl ?_
  refine ldN 2 rfl rfl ?_
  have hnm : f.name = n := hfm.2
  refine co (n := (putP (.slice qa f.bs.length qc, ⟨f.name, f.bs, f.bs.length⟩) ps).length) (z := 3) (xs := rfC (putP (.slice qa f.bs.length qc, ⟨f.name, f.bs, f.bs.length⟩) ps)) (e := TFi) (fun w1 hs => put_any _ fc ps (.slice qa f.bs.length qc, ⟨f.name, f.bs, f.bs.length⟩) qa f.bs.length qc rfl hsl (by omega) w1 (cells_at hs hcell)) (fun r2 hR2 => ?_)
  refine s1 0 rfl (show 5 < 6 by decide) ?_ (h1 := by cases r2 <;> rfl) (hv := by cases r2 <;> rfl)
  refine ldN 0 rfl rfl ?_
  refine sN 1 rfl rfl (rdC_one (stepD M).2 (by cases r2 <;> rfl)) ?_ (by kernel_rfl)
  refine ldN 1 rfl rfl ?_
  refine ⟨fun w1 hs => RefR.put (rr1 := rr) hs 3 rfl hR2 (fun p' hp' => ?_) (fun _ h => .inl h) (by rw [putF_map, hps, hnm]) hs1 rfl⟩
  rcases putP_mem hp' with rfl | hp'
  · rw [hq] at hpr; exact RdR.below hs.below hr hpr
  · exact RdR.below hs.below hr (hrd p' hp')
set_option maxRecDepth 100000 in
set_option maxHeartbeats 2000000 in
theorem rdrop_any (M : Dk) (fv : Value) (rr : Nat → Prop) (n : List UInt8) (hfs : M.files.length ≤ 1000000) (hst : M.steps ≤ 1000000) (hl : M.left ≤ 9223372036854775807) (w : World) (h : RFs rr w fv M.files) (hr : ∀ k, rr k → k < w.heap.size) :
    Calls Try.prog 37 ([.agg (rdC M fv), VS n] : List Value).toArray w (RefR rr w (rdropD M n).1 (rdropD M n).2) := by
  obtain ⟨ps, fa, fc, hps, rfl, hrd, hcell⟩ := h.pairs
  have hpl : ps.length = M.files.length := by rw [← hps]; simp
  have hsl : ∀ p ∈ ps, ∃ a l c, p.1 = .slice a l c := fun p hp => by obtain ⟨a, c, e⟩ := rdr_slice (hrd p hp); exact ⟨a, _, c, e⟩
  refine (enter tab_ok Try.func37 rfl Try.ntmps37 rfl (St.start w) (R := fun v w' => RefR rr w (rdropD M n).1 (rdropD M n).2 (.returned v) w') ?_).mono (fun e w' ⟨v, he, h⟩ => by rw [he]; exact h)
  intro b3 b6
  refine ldN 0 rfl rfl ?_
  refine cvs (fun w1 hs => rat_any M _ M.files rr n hfs w1 (h.below hs.below hr)) ?_
  rcases at_find n M.files with ⟨hf1, hf2⟩ | ⟨i, f, hf0, hf1, hf2⟩
  · rw [hf2]
    have e1 : rdropD M n = (M, 5) := by unfold rdropD; rw [hf1]
    rw [e1]
    refine ct rfl ?_
    refine ldN 0 rfl rfl ?_
    refine sN 1 rfl rfl (rdC_one M rfl) ?_ (by kernel_rfl)
    refine ldN 1 rfl rfl ?_
    exact ⟨fun w1 hs => RefR.same hs hr h rfl rfl⟩
  rw [hf2]
  refine cf (decide_eq_false (by omega)) ?_
  have e1 : rdropD M n = actD M (woF n M.files) := by unfold rdropD; rw [hf1]
  rw [e1]
  refine ldN 0 rfl rfl ?_
  refine cv (rstep_any M _ _ _ hst hl) ?_
  refine sN 0 rfl rfl (rdC_one (stepD M).2 rfl) ?_ (by kernel_rfl)
  cases hs1 : (stepD M).1 with
  | false =>
    rw [act_off hs1]
    refine ct rfl ?_
    refine ldN 0 rfl rfl ?_
    refine sN 1 rfl rfl (rdC_one (stepD M).2 rfl) ?_ (by kernel_rfl)
    refine ldN 1 rfl rfl ?_
    exact ⟨fun w1 hs => RefR.same hs hr h (stepD_files M) rfl⟩
  | true =>
  refine cf rfl ?_
  refine ld1 0 rfl (v := .slice fa ps.length fc) rfl ?_
  refine co (n := (woP n ps).length) (z := 3) (xs := rfC (woP n ps)) (e := TFi) (fun w1 hs => without_any fa fc ps n hsl (by omega) w1 (cells_at hs hcell)) (fun r2 hR2 => ?_)
  refine s1 0 rfl (show 5 < 6 by decide) ?_ (h1 := by cases r2 <;> rfl) (hv := by cases r2 <;> rfl)
  refine ldN 0 rfl rfl ?_
  refine sN 1 rfl rfl (rdC_one (stepD M).2 (by cases r2 <;> rfl)) ?_ (by kernel_rfl)
  refine ldN 1 rfl rfl ?_
  refine ⟨fun w1 hs => RefR.put (rr1 := rr) hs 2 rfl hR2 (fun p' hp' => ?_) (fun _ h => .inl h) (by rw [woF_map, hps]) hs1 rfl⟩
  exact RdR.below hs.below hr (hrd p' (woP_mem hp'))
end Go.Proofs.Ytdgkaboaapfnmaa
