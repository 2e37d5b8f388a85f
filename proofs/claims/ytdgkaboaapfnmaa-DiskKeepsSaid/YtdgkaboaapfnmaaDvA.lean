/- Plain law: what acts do to a disk's numbers. -/
import Derived.Test.YtdgkaboaapfnmaaDoE
namespace Go.Proofs.Ytdgkaboaapfnmaa
open Go.RowKit Go.Sx
set_option linter.unusedVariables false

def lenF (n : List UInt8) (fs : List Fe) : Nat := match findF n fs with | some g => g.bs.length | none => 0
theorem lenF_cons (n : List UInt8) (g : Fe) (l : List Fe) : lenF n (g :: l) = if n = g.name then g.bs.length else lenF n l := by
  unfold lenF
  rw [findF]
  by_cases h : n = g.name
  · rw [if_pos h, if_pos h]
  · rw [if_neg h, if_neg h]
theorem used_cons (g : Fe) (l : List Fe) : usedD (g :: l) = g.bs.length + usedD l := by simp [usedD]
theorem used_set (f : Fe) (fs : List Fe) : usedD (setF f fs) + lenF f.name fs = usedD fs + f.bs.length := by
  induction fs with
  | nil => simp [setF, lenF, findF, usedD]
  | cons g l ih =>
    rw [lenF_cons, setF]
    split
    · rw [used_cons, used_cons]; omega
    · rw [used_cons, used_cons]; omega
theorem used_del (n : List UInt8) (fs : List Fe) : usedD (delF n fs) + lenF n fs = usedD fs := by
  induction fs with
  | nil => simp [delF, lenF, findF, usedD]
  | cons g l ih =>
    rw [lenF_cons, delF]
    split
    · rw [used_cons]; omega
    · rw [used_cons, used_cons]; omega
theorem len_set (f : Fe) (fs : List Fe) : (setF f fs).length ≤ fs.length + 1 := by
  induction fs with
  | nil => simp [setF]
  | cons g l ih => rw [setF]; split <;> simp; omega
theorem used_crash (k : Int) (fs : List Fe) : usedD (fs.map (crashF k)) ≤ usedD fs := by
  induction fs with
  | nil => simp
  | cons g l ih =>
    rw [List.map_cons, used_cons, used_cons]
    have : (crashF k g).bs.length ≤ g.bs.length := by simp [crashF]; omega
    omega
/-- files that are not too many -/
structure Fl (q k : Nat) (fs : List Fe) : Prop where
  n : Nms fs
  z : ∀ f ∈ fs, f.sure ≤ f.bs.length
  u : usedD fs ≤ 300 * k
  q : usedD fs ≤ q
  l : fs.length ≤ k
theorem Fl.up {q k : Nat} {fs : List Fe} (h : Fl q k fs) : Fl q (k + 1) fs := ⟨h.n, h.z, by have := h.u; omega, h.q, by have := h.l; omega⟩
theorem Fl.set {q k : Nat} {fs : List Fe} (h : Fl q k fs) (f : Fe) (hs : f.sure ≤ f.bs.length) (hu : f.bs.length ≤ lenF f.name fs + 300) (hq : usedD fs + f.bs.length ≤ q + lenF f.name fs) : Fl q (k + 1) (setF f fs) := by
  have h1 := used_set f fs
  have h2 := len_set f fs
  have h3 := h.u
  have h4 := h.l
  exact ⟨set_nd h.n f, fun g hg => by rcases (set_mem h.n f g).1 hg with rfl | hg; exact hs; exact h.z g hg.1, by omega, by omega, by omega⟩
theorem Fl.del {q k : Nat} {fs : List Fe} (h : Fl q k fs) (n : List UInt8) : Fl q k (delF n fs) := by
  have h1 := used_del n fs
  have h2 := (delF_sub n fs).length_le
  have h3 := h.u
  have h4 := h.l
  have h5 := h.q
  exact ⟨del_nd h.n n, fun g hg => h.z g ((del_mem h.n n g).1 hg).1, by omega, by omega, by omega⟩
theorem Fl.perm {q k : Nat} {fs gs : List Fe} (h : Fl q k fs) (hp : PS fs gs) : Fl q k gs := ⟨hp.s.nd, fun f hf => h.z f (hp.p.mem_iff.1 hf), by rw [hp.used]; exact h.u, by rw [hp.used]; exact h.q, by rw [hp.p.length_eq]; exact h.l⟩
theorem lenF_some {n : List UInt8} {fs : List Fe} {f : Fe} (h : findF n fs = some f) : lenF n fs = f.bs.length := by unfold lenF; rw [h]
theorem lenF_none {n : List UInt8} {fs : List Fe} (h : findF n fs = none) : lenF n fs = 0 := by unfold lenF; rw [h]
/-- a disk behind so many acts -/
structure Cnt (q k : Nat) (D : Dk) : Prop where
  qt : D.quota = q
  st : D.steps ≤ k
  lf : D.left ≤ 9223372036854775807
  f : Fl q k D.files
theorem Cnt.up {q k : Nat} {D : Dk} (h : Cnt q k D) : Cnt q (k + 1) D := ⟨h.qt, by have := h.st; omega, h.lf, h.f.up⟩
theorem Cnt.step {q k : Nat} {D : Dk} (h : Cnt q k D) : (stepD D).2.quota = q ∧ (stepD D).2.steps ≤ k + 1 ∧ (stepD D).2.left ≤ 9223372036854775807 := by
  have h1 := h.st
  have h2 := h.lf
  unfold stepD
  split
  · exact ⟨h.qt, by simp only; omega, h2⟩
  · refine ⟨h.qt, by simp only; omega, ?_⟩
    simp only
    split <;> omega
theorem Cnt.act {q k : Nat} {D : Dk} (h : Cnt q k D) {fs : List Fe} (hf : Fl q (k + 1) fs) : Cnt q (k + 1) (actD D fs).1 := by
  obtain ⟨h1, h2, h3⟩ := h.step
  unfold actD
  split
  · exact ⟨h1, h2, h3, hf⟩
  · exact ⟨h1, h2, h3, by rw [stepD_files]; exact h.f.up⟩
theorem Cnt.append {q k : Nat} {D : Dk} (h : Cnt q k D) (n x : List UInt8) (hx : x.length ≤ 300) : Cnt q (k + 1) (appendD D n x).1 := by
  have e1 : appendD D n x = if namedL n = false then (D, 5) else if (D.quota : Int) - usedD D.files < x.length then (D, 3) else actD D (setF ⟨n, (match findF n D.files with | some f => f.bs | none => []) ++ x, match findF n D.files with | some f => f.sure | none => 0⟩ D.files) := by
    unfold appendD actD; rfl
  rw [e1]
  have hq := h.qt
  split
  · exact h.up
  · split
    · exact h.up
    · rename_i hfull
      cases hf : findF n D.files with
      | none =>
        have hl : lenF n D.files = 0 := lenF_none hf
        exact h.act (h.f.set _ (by simp) (by simp only [List.nil_append, hl]; omega) (by simp only [List.nil_append, hl]; omega))
      | some f =>
        have hl : lenF n D.files = f.bs.length := lenF_some hf
        have hz := h.f.z f (findF_mem hf).1
        exact h.act (h.f.set _ (by simp only [List.length_append]; omega) (by simp only [List.length_append, hl]; omega) (by simp only [List.length_append, hl]; omega))
theorem Cnt.sync {q k : Nat} {D : Dk} (h : Cnt q k D) (n : List UInt8) : Cnt q (k + 1) (syncD D n).1 := by
  unfold syncD
  cases hf : findF n D.files with
  | none => exact h.up
  | some f =>
    have hl : lenF n D.files = f.bs.length := lenF_some hf
    have hq := h.f.q
    exact h.act (h.f.set _ (Nat.le_refl _) (by simp only [hl]; omega) (by simp only [hl]; omega))
theorem Cnt.cut {q k : Nat} {D : Dk} (h : Cnt q k D) (n : List UInt8) (z : Int) : Cnt q (k + 1) (cutD D n z).1 := by
  unfold cutD
  cases hf : findF n D.files with
  | none => exact h.up
  | some f =>
    have hl : lenF n D.files = f.bs.length := lenF_some hf
    have hq := h.f.q
    have hz := h.f.z f (findF_mem hf).1
    simp only []
    split
    · exact h.up
    · exact h.act (h.f.set _ (by simp only [List.length_take]; omega) (by simp only [List.length_take, hl]; omega) (by simp only [List.length_take, hl]; omega))
theorem Cnt.rename {q k : Nat} {D : Dk} (h : Cnt q k D) (n m : List UInt8) : Cnt q (k + 1) (renameD D n m).1 := by
  unfold renameD
  cases hf : findF n D.files with
  | none => exact h.up
  | some f =>
    have hl : lenF n D.files = f.bs.length := lenF_some hf
    have hd := used_del n D.files
    have hs := used_set ⟨m, f.bs, f.bs.length⟩ (delF n D.files)
    have hq := h.f.q
    have hu := h.f.u
    have hlen := len_set ⟨m, f.bs, f.bs.length⟩ (delF n D.files)
    have hl2 := (h.f.del n).l
    simp only at hs
    simp only []
    split
    · exact h.up
    · refine h.act ⟨set_nd (h.f.del n).n _, fun g hg => ?_, by omega, by omega, by omega⟩
      rcases (set_mem (h.f.del n).n _ g).1 hg with rfl | hg
      · exact Nat.le_refl _
      · exact (h.f.del n).z g hg.1
theorem Cnt.drop {q k : Nat} {D : Dk} (h : Cnt q k D) (n : List UInt8) : Cnt q (k + 1) (dropD D n).1 := by
  unfold dropD
  cases hf : findF n D.files with
  | none => exact h.up
  | some f => exact h.act (h.f.del n).up
theorem Cnt.crash {q k : Nat} {D : Dk} (h : Cnt q k D) (z : Int) : Cnt q k (crashD D z) := by
  have h1 := used_crash z D.files
  have h2 := h.f.u
  have h3 := h.f.q
  refine ⟨h.qt, h.st, h.lf, ⟨?_, fun f hf => ?_, by show usedD (D.files.map (crashF z)) ≤ _; omega, by show usedD (D.files.map (crashF z)) ≤ _; omega, by show (D.files.map (crashF z)).length ≤ _; rw [List.length_map]; exact h.f.l⟩⟩
  · show Nms (D.files.map (crashF z))
    rw [Nms, List.map_map, show ((·.name) ∘ crashF z : Fe → List UInt8) = (·.name) from rfl]; exact h.f.n
  · obtain ⟨g, hg, rfl⟩ := List.mem_map.1 (show f ∈ D.files.map (crashF z) from hf)
    have := h.f.z g hg
    simp only [crashF, List.length_take]; omega
theorem Cnt.arm {q k : Nat} {D : Dk} (h : Cnt q k D) (n : Int) (hn : n ≤ 9223372036854775807) : Cnt q k (armD D n).1 := by
  unfold armD
  split
  · exact h
  · exact ⟨h.qt, h.st, by simp only; omega, h.f⟩
theorem Cnt.doD {q k : Nat} {D : Dk} (h : Cnt q k D) (o : Opn) (hb : o.b.length ≤ 300) (hn : o.n ≤ 9223372036854775807) : Cnt q (k + 1) (doD D o).1 := by
  unfold Proofs.Ytdgkaboaapfnmaa.doD
  split
  · exact h.append _ _ hb
  split
  · exact h.sync _
  split
  · exact h.cut _ _
  split
  · exact h.rename _ _
  split
  · exact h.drop _
  split
  · exact (h.arm _ hn).up
  split
  · exact (h.crash _).up
  · exact h.up
theorem Cnt.eqv {q k : Nat} {D M : Dk} (h : Cnt q k D) (he : Eqv D M) : Cnt q k M := ⟨he.qt.symm.trans h.qt, by rw [← he.st]; exact h.st, by rw [← he.lf]; exact h.lf, h.f.perm he.f⟩
theorem Cnt.doM {q k : Nat} {M : Dk} (h : Cnt q k M) (hr : Rise M.files) (o : Opn) (hb : o.b.length ≤ 300) (hn : o.n ≤ 9223372036854775807) : Cnt q (k + 1) (doM M o).1 := (h.doD o hb hn).eqv ((Eqv.refl hr).act1 o).2
theorem rise_doM {M : Dk} (hr : Rise M.files) (o : Opn) : Rise (doM M o).1.files := ((Eqv.refl hr).act1 o).2.f.s
theorem Cnt.fits {q k : Nat} {D : Dk} (h : Cnt q k D) (hk : k ≤ 1000) (hq : q ≤ 16777216) : Fits D := by
  have h1 := h.st
  have h2 := h.f.u
  have h3 := h.f.l
  refine ⟨by omega, h.lf, by omega, by rw [h.qt]; exact hq, by omega, fun f hf => ⟨h.f.z f hf, ?_⟩⟩
  have : f.bs.length ≤ usedD D.files := by
    unfold usedD
    exact le_sum (List.mem_map_of_mem (f := fun f : Fe => f.bs.length) hf)
  omega
theorem Cnt.zero (q k : Nat) : Cnt q k ⟨0, 0, false, false, q, []⟩ := ⟨rfl, Nat.zero_le _, Nat.zero_le _, ⟨List.nodup_nil, (fun f hf => by cases hf), by simp [usedD], by simp [usedD], Nat.zero_le _⟩⟩
theorem rise_nil : Rise [] := .nil
/-- an act that is not too large -/
def bigO (i : Nat) (o : Opn) : Bool := decide (80 < i) || decide (300 < o.b.length) || decide (200 < o.name.length) || decide (200 < o.to.length)
def bigS (O : Nat → Opn × Value) (n : Nat) : Bool := (List.range n).any fun i => bigO i (O i).1
theorem bigS_no {O : Nat → Opn × Value} {n : Nat} (h : bigS O n = false) : n ≤ 81 ∧ ∀ i, i < n → (O i).1.b.length ≤ 300 ∧ (O i).1.name.length ≤ 200 ∧ (O i).1.to.length ≤ 200 := by
  have h1 : ∀ i, i < n → bigO i (O i).1 = false := fun i hi => by
    have := List.any_eq_false.1 h i (List.mem_range.2 hi)
    simpa using this
  refine ⟨?_, fun i hi => ?_⟩
  · rcases Nat.lt_or_ge 81 n with h2 | h2
    · have := h1 81 h2
      simp [bigO] at this
    · exact h2
  · have := h1 i hi
    simp [bigO] at this
    omega
end Go.Proofs.Ytdgkaboaapfnmaa
