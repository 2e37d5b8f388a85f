/- Plain law: the program's disk and the reference's say the same. -/
import Derived.Test.YtdgkaboaapfnmaaDrK
namespace Go.Proofs.Ytdgkaboaapfnmaa
open Go.RowKit Go.Sx
set_option linter.unusedVariables false

abbrev Nms (fs : List Fe) : Prop := (fs.map (·.name)).Nodup
abbrev Rise (fs : List Fe) : Prop := fs.Pairwise fun f g => f.name < g.name
theorem Rise.nd {fs : List Fe} (h : Rise fs) : Nms fs := by
  rw [Nms, List.nodup_iff_pairwise_ne, List.pairwise_map]
  refine h.imp fun {a b} h1 h2 => ?_
  rw [h2] at h1
  exact List.lt_irrefl _ h1
theorem Nms.nd {fs : List Fe} (h : Nms fs) : fs.Nodup := by
  rw [Nms, List.nodup_iff_pairwise_ne, List.pairwise_map] at h
  exact h.imp fun {a b} h1 h2 => h1 (by rw [h2])
theorem find_some {fs : List Fe} (h : Nms fs) {f : Fe} (hf : f ∈ fs) : findF f.name fs = some f := by
  induction fs with
  | nil => cases hf
  | cons g l ih =>
    simp only [Nms, List.map_cons, List.nodup_cons] at h
    unfold findF
    rcases List.mem_cons.1 hf with rfl | hf
    · rw [if_pos rfl]
    · rw [if_neg, ih h.2 hf]
      intro e
      exact h.1 (e ▸ List.mem_map_of_mem hf)
theorem find_none {fs : List Fe} {n : List UInt8} (h : ∀ f ∈ fs, f.name ≠ n) : findF n fs = none := by
  cases hf : findF n fs with
  | none => rfl
  | some f => exact absurd (findF_mem hf).2 (h f (findF_mem hf).1)
theorem find_perm {fs gs : List Fe} (hf : Nms fs) (hg : Nms gs) (hp : gs.Perm fs) (n : List UInt8) : findF n gs = findF n fs := by
  cases h : findF n fs with
  | none =>
    refine find_none fun f h1 h2 => ?_
    have := find_some hf (hp.mem_iff.1 h1)
    rw [h2, h] at this; cases this
  | some f =>
    obtain ⟨h1, h2⟩ := findF_mem h
    rw [← h2]
    exact find_some hg (hp.mem_iff.2 h1)
theorem set_mem {fs : List Fe} (h : Nms fs) (f g : Fe) : g ∈ setF f fs ↔ g = f ∨ (g ∈ fs ∧ g.name ≠ f.name) := by
  induction fs with
  | nil => simp [setF]
  | cons k l ih =>
    simp only [Nms, List.map_cons, List.nodup_cons] at h
    unfold setF
    by_cases he : f.name = k.name
    · rw [if_pos he]
      simp only [List.mem_cons]
      constructor
      · rintro (rfl | h1)
        · exact .inl rfl
        · exact .inr ⟨.inr h1, fun e => h.1 (by rw [← he, ← e]; exact List.mem_map_of_mem h1)⟩
      · rintro (h1 | ⟨rfl | h1, h2⟩)
        · exact .inl h1
        · exact absurd he.symm h2
        · exact .inr h1
    · rw [if_neg he]
      simp only [List.mem_cons, ih h.2]
      constructor
      · rintro (rfl | h1 | h1)
        · exact .inr ⟨.inl rfl, fun e => he e.symm⟩
        · exact .inl h1
        · exact .inr ⟨.inr h1.1, h1.2⟩
      · rintro (h1 | ⟨h1 | h1, h2⟩)
        · exact .inr (.inl h1)
        · exact .inl h1
        · exact .inr (.inr ⟨h1, h2⟩)
theorem set_nd {fs : List Fe} (h : Nms fs) (f : Fe) : Nms (setF f fs) := by
  rw [Nms, setF_names]
  split
  · exact h
  · rename_i h1
    refine List.nodup_append.2 ⟨h, by simp, ?_⟩
    intro a ha b hb
    obtain rfl : b = f.name := by simpa using hb
    exact fun e => h1 (e ▸ ha)
theorem del_mem {fs : List Fe} (h : Nms fs) (n : List UInt8) (g : Fe) : g ∈ delF n fs ↔ g ∈ fs ∧ g.name ≠ n := by
  induction fs with
  | nil => simp [delF]
  | cons k l ih =>
    simp only [Nms, List.map_cons, List.nodup_cons] at h
    unfold delF
    by_cases he : n = k.name
    · rw [if_pos he]
      simp only [List.mem_cons]
      constructor
      · intro h1; exact ⟨.inr h1, fun e => h.1 (by rw [← he, ← e]; exact List.mem_map_of_mem h1)⟩
      · rintro ⟨rfl | h1, h2⟩
        · exact absurd he.symm h2
        · exact h1
    · rw [if_neg he]
      simp only [List.mem_cons, ih h.2]
      constructor
      · rintro (rfl | h1)
        · exact ⟨.inl rfl, fun e => he e.symm⟩
        · exact ⟨.inr h1.1, h1.2⟩
      · rintro ⟨h1 | h1, h2⟩
        · exact .inl h1
        · exact .inr ⟨h1, h2⟩
theorem del_nd {fs : List Fe} (h : Nms fs) (n : List UInt8) : Nms (delF n fs) := List.Pairwise.sublist ((delF_sub n fs).map _) h
/-- the files, one more put in its place -/
def insF (f : Fe) : List Fe → List Fe
  | [] => [f]
  | g :: l => if g.name < f.name then g :: insF f l else f :: (g :: l).filter fun q => decide (q.name ≠ f.name)
def endF (f : Fe) (s : List Fe × Bool) : List Fe := if s.2 then s.1 else s.1 ++ [f]
theorem putF_ins (f : Fe) (fs : List Fe) : putF f fs = insF f fs := by
  have done : ∀ (l out : List Fe), l.foldl (putStepF f) (out, true) = (out ++ l.filter (fun q => decide (q.name ≠ f.name)), true) := by
    intro l
    induction l with
    | nil => intro out; simp
    | cons g l ih =>
      intro out
      rw [List.foldl_cons]
      by_cases he : g.name = f.name
      · have : putStepF f (out, true) g = (out, true) := by simp [putStepF, he]
        rw [this, ih, List.filter_cons_of_neg (by simp [he])]
      · have : putStepF f (out, true) g = (out ++ [g], true) := by simp [putStepF, he]
        rw [this, ih, List.filter_cons_of_pos (by simp [he])]; simp
  have go : ∀ (l out : List Fe), endF f (l.foldl (putStepF f) (out, false)) = out ++ insF f l := by
    intro l
    induction l with
    | nil => intro out; simp [insF, endF]
    | cons g l ih =>
      intro out
      rw [List.foldl_cons]
      by_cases hl : g.name < f.name
      · have hne : g.name ≠ f.name := fun e => List.lt_irrefl _ (e ▸ hl)
        have : putStepF f (out, false) g = (out ++ [g], false) := by simp [putStepF, hl, hne]
        rw [this, ih, insF, if_pos hl]; simp
      · by_cases he : g.name = f.name
        · have : putStepF f (out, false) g = (out ++ [f], true) := by simp [putStepF, he, List.lt_irrefl]
          rw [this, done, insF, if_neg hl, List.filter_cons_of_neg (by simp [he])]; simp [endF]
        · have : putStepF f (out, false) g = (out ++ [f] ++ [g], true) := by simp [putStepF, he, hl]
          rw [this, done, insF, if_neg hl, List.filter_cons_of_pos (by simp [he])]; simp [endF]
  have := go fs []
  rw [List.nil_append] at this
  exact this
theorem ins_mem (f g : Fe) (fs : List Fe) : g ∈ insF f fs ↔ g = f ∨ (g ∈ fs ∧ g.name ≠ f.name) := by
  induction fs with
  | nil => simp [insF]
  | cons k l ih =>
    unfold insF
    by_cases hl : k.name < f.name
    · have hne : k.name ≠ f.name := fun e => List.lt_irrefl _ (e ▸ hl)
      rw [if_pos hl]
      simp only [List.mem_cons, ih]
      constructor
      · rintro (rfl | h1 | h1)
        · exact .inr ⟨.inl rfl, hne⟩
        · exact .inl h1
        · exact .inr ⟨.inr h1.1, h1.2⟩
      · rintro (h1 | ⟨h1 | h1, h2⟩)
        · exact .inr (.inl h1)
        · exact .inl h1
        · exact .inr (.inr ⟨h1, h2⟩)
    · rw [if_neg hl]
      simp [List.mem_filter]
theorem ins_rise {f : Fe} {fs : List Fe} (h : Rise fs) : Rise (insF f fs) := by
  induction fs with
  | nil => simp [insF, Rise]
  | cons k l ih =>
    have hk := (List.pairwise_cons.1 h).1
    have hl := (List.pairwise_cons.1 h).2
    unfold insF
    by_cases hlt : k.name < f.name
    · rw [if_pos hlt]
      refine List.pairwise_cons.2 ⟨fun g hg => ?_, ih hl⟩
      rcases (ins_mem f g l).1 hg with rfl | ⟨h1, _⟩
      · exact hlt
      · exact hk g h1
    · rw [if_neg hlt]
      refine List.pairwise_cons.2 ⟨fun g hg => ?_, h.sublist List.filter_sublist⟩
      obtain ⟨h1, h2⟩ := List.mem_filter.1 hg
      have h2 : g.name ≠ f.name := by simpa using h2
      have hle : f.name ≤ g.name := by
        rcases List.mem_cons.1 h1 with rfl | h1
        · exact List.not_lt.1 hlt
        · exact List.le_of_lt (List.lt_of_le_of_lt (List.not_lt.1 hlt) (hk g h1))
      exact Decidable.byContradiction fun hn => h2 (List.le_antisymm (List.not_lt.1 hn) hle)
/-- the reference's files and the program's -/
structure PS (fs gs : List Fe) : Prop where
  n : Nms fs
  p : gs.Perm fs
  s : Rise gs
theorem PS.refl {fs : List Fe} (h : Rise fs) : PS fs fs := ⟨h.nd, .refl _, h⟩
theorem PS.of {fs gs : List Fe} (h1 : Nms fs) (h2 : Rise gs) (h : ∀ f, f ∈ gs ↔ f ∈ fs) : PS fs gs := ⟨h1, (List.perm_ext_iff_of_nodup h2.nd.nd h1.nd).2 h, h2⟩
theorem PS.put {fs gs : List Fe} (h : PS fs gs) (f : Fe) : PS (setF f fs) (putF f gs) := by
  rw [putF_ins]
  refine .of (set_nd h.n f) (ins_rise h.s) fun g => ?_
  rw [ins_mem, set_mem h.n, h.p.mem_iff]
theorem PS.del {fs gs : List Fe} (h : PS fs gs) (n : List UInt8) : PS (delF n fs) (woF n gs) := by
  refine .of (del_nd h.n n) (h.s.sublist List.filter_sublist) fun g => ?_
  rw [del_mem h.n, woF, List.mem_filter, h.p.mem_iff]
  simp
theorem PS.map {fs gs : List Fe} (h : PS fs gs) (k : Fe → Fe) (hk : ∀ f, (k f).name = f.name) : PS (fs.map k) (gs.map k) := by
  refine ⟨?_, h.p.map k, ?_⟩
  · rw [Nms, List.map_map, show ((·.name) ∘ k : Fe → List UInt8) = (·.name) from funext hk]; exact h.n
  · rw [Rise, List.pairwise_map]
    simpa only [hk] using h.s
theorem PS.find {fs gs : List Fe} (h : PS fs gs) (n : List UInt8) : findF n gs = findF n fs := find_perm h.n h.s.nd h.p n
theorem PS.used {fs gs : List Fe} (h : PS fs gs) : usedD gs = usedD fs := List.Perm.sum_nat (h.p.map _)
theorem PS.names {fs gs : List Fe} (h : PS fs gs) : sortT (fs.map (·.name)) = gs.map (·.name) := by
  refine sorted_eq ((sortT_perm _).trans (h.p.map _).symm) (sortT_pw _) ?_
  rw [List.pairwise_map]
  exact h.s.imp fun h => List.le_of_lt h
/-- the program's disk and the reference's -/
structure Eqv (D M : Dk) : Prop where
  st : D.steps = M.steps
  lf : D.left = M.left
  ar : D.armed = M.armed
  gn : D.gone = M.gone
  qt : D.quota = M.quota
  f : PS D.files M.files
theorem Eqv.refl {M : Dk} (h : Rise M.files) : Eqv M M := ⟨rfl, rfl, rfl, rfl, rfl, .refl h⟩
theorem Eqv.step {D M : Dk} (h : Eqv D M) : (stepD D).1 = (stepD M).1 ∧ Eqv (stepD D).2 (stepD M).2 := by
  unfold stepD
  rw [h.gn, h.ar, h.lf]
  split
  · exact ⟨rfl, h.st, rfl, rfl, rfl, h.qt, h.f⟩
  · exact ⟨rfl, by simp [h.st], rfl, rfl, rfl, h.qt, h.f⟩
theorem Eqv.act {D M : Dk} (h : Eqv D M) {fs gs : List Fe} (hf : PS fs gs) : (actD D fs).2 = (actD M gs).2 ∧ Eqv (actD D fs).1 (actD M gs).1 := by
  obtain ⟨h1, h2⟩ := h.step
  unfold actD
  rw [h1]
  split
  · exact ⟨rfl, h2.st, h2.lf, h2.ar, h2.gn, h2.qt, hf⟩
  · exact ⟨rfl, h2⟩
theorem Eqv.append {D M : Dk} (h : Eqv D M) (n x : List UInt8) : (appendD D n x).2 = (rappendD M n x).2 ∧ Eqv (appendD D n x).1 (rappendD M n x).1 := by
  have e1 : appendD D n x = if namedL n = false then (D, 5) else if (D.quota : Int) - usedD D.files < x.length then (D, 3) else actD D (setF ⟨n, (match findF n D.files with | some f => f.bs | none => []) ++ x, match findF n D.files with | some f => f.sure | none => 0⟩ D.files) := by
    unfold appendD actD; rfl
  rw [e1]
  unfold rappendD
  rw [h.f.find, h.f.used, h.qt]
  split
  · exact ⟨rfl, h⟩
  · split
    · exact ⟨rfl, h⟩
    · exact h.act (h.f.put _)
theorem Eqv.sync {D M : Dk} (h : Eqv D M) (n : List UInt8) : (syncD D n).2 = (rsyncD M n).2 ∧ Eqv (syncD D n).1 (rsyncD M n).1 := by
  unfold syncD rsyncD
  rw [h.f.find]
  cases findF n D.files
  · exact ⟨rfl, h⟩
  · exact h.act (h.f.put _)
theorem Eqv.cut {D M : Dk} (h : Eqv D M) (n : List UInt8) (k : Int) : (cutD D n k).2 = (rcutD M n k).2 ∧ Eqv (cutD D n k).1 (rcutD M n k).1 := by
  unfold cutD rcutD
  rw [h.f.find]
  cases findF n D.files
  · exact ⟨rfl, h⟩
  · simp only []
    split
    · exact ⟨rfl, h⟩
    · exact h.act (h.f.put _)
theorem Eqv.rename {D M : Dk} (h : Eqv D M) (n m : List UInt8) : (renameD D n m).2 = (rrenameD M n m).2 ∧ Eqv (renameD D n m).1 (rrenameD M n m).1 := by
  unfold renameD rrenameD
  rw [h.f.find]
  cases findF n D.files
  · exact ⟨rfl, h⟩
  · simp only []
    split
    · exact ⟨rfl, h⟩
    · exact h.act ((h.f.del n).put _)
theorem Eqv.drop {D M : Dk} (h : Eqv D M) (n : List UInt8) : (dropD D n).2 = (rdropD M n).2 ∧ Eqv (dropD D n).1 (rdropD M n).1 := by
  unfold dropD rdropD
  rw [h.f.find]
  cases findF n D.files
  · exact ⟨rfl, h⟩
  · exact h.act (h.f.del n)
theorem Eqv.read {D M : Dk} (h : Eqv D M) (n : List UInt8) : readD D n = readD M n := by
  unfold readD
  rw [h.f.find, h.gn]
theorem Eqv.crash {D M : Dk} (h : Eqv D M) (k : Int) : Eqv (crashD D k) (crashD M k) := ⟨h.st, h.lf, rfl, rfl, h.qt, h.f.map _ fun f => rfl⟩
/-- an act -/
structure Opn where
  kind : Int
  name : List UInt8
  to : List UInt8
  n : Int
  b : List UInt8
def armD (D : Dk) (n : Int) : Dk × Nat := if n < 0 then (D, 2) else ({ D with armed := true, left := n.toNat }, 0)
def doD (D : Dk) (o : Opn) : Dk × Nat := if o.kind = 1 then appendD D o.name o.b else if o.kind = 2 then syncD D o.name else if o.kind = 3 then cutD D o.name o.n else if o.kind = 4 then renameD D o.name o.to else if o.kind = 5 then dropD D o.name else if o.kind = 7 then armD D o.n else if o.kind = 8 then (crashD D o.n, 0) else (D, (readD D o.name).2)
def doM (D : Dk) (o : Opn) : Dk × Nat := if o.kind = 1 then rappendD D o.name o.b else if o.kind = 2 then rsyncD D o.name else if o.kind = 3 then rcutD D o.name o.n else if o.kind = 4 then rrenameD D o.name o.to else if o.kind = 5 then rdropD D o.name else if o.kind = 7 then armD D o.n else if o.kind = 8 then (crashD D o.n, 0) else (D, (readD D o.name).2)
theorem Eqv.arm {D M : Dk} (h : Eqv D M) (k : Int) : (armD D k).2 = (armD M k).2 ∧ Eqv (armD D k).1 (armD M k).1 := by
  unfold armD
  split
  · exact ⟨rfl, h⟩
  · exact ⟨rfl, h.st, rfl, rfl, h.gn, h.qt, h.f⟩
theorem Eqv.act1 {D M : Dk} (h : Eqv D M) (o : Opn) : (doD D o).2 = (doM M o).2 ∧ Eqv (doD D o).1 (doM M o).1 := by
  unfold doD doM
  split
  · exact h.append _ _
  split
  · exact h.sync _
  split
  · exact h.cut _ _
  split
  · exact h.rename _ _
  split
  · exact h.drop _
  split
  · exact h.arm _
  split
  · exact ⟨rfl, h.crash _⟩
  · exact ⟨by rw [h.read], h⟩
end Go.Proofs.Ytdgkaboaapfnmaa
