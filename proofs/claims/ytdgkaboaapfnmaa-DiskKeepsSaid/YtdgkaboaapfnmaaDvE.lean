/- The law DiskArmed: plain law and walk. -/
import Derived.Test.YtdgkaboaapfnmaaDvC
namespace Go.Proofs.Ytdgkaboaapfnmaa
open Go.RowKit Go.Sx
set_option linter.unusedVariables false

/-- an armed disk: what was done and what is left -/
structure Arm (s : Nat) (D : Dk) : Prop where
  ar : D.armed = true
  sm : D.steps + D.left = s
  gn : D.gone = true → D.left = 0
def ArmK (s : Nat) (D : Dk) (r : Dk × Nat) : Prop := Arm s r.1 ∧ (D.gone = true → r.2 ≠ 0 ∧ usedD r.1.files = usedD D.files)
theorem Arm.same {s : Nat} {D : Dk} (h : Arm s D) (k : Nat) (hk : k ≠ 0) : ArmK s D (D, k) := ⟨h, fun _ => ⟨hk, rfl⟩⟩
theorem Arm.act {s : Nat} {D : Dk} (h : Arm s D) (fs : List Fe) : ArmK s D (actD D fs) := by
  obtain ⟨st, lf, ar, gn, qt, fl⟩ := D
  obtain ⟨h1, h2, h3⟩ := h
  simp only at h1 h2 h3
  subst h1
  unfold ArmK actD stepD
  cases gn with
  | true =>
    have := h3 rfl
    subst this
    exact ⟨⟨rfl, h2, fun _ => rfl⟩, fun _ => ⟨by simp, rfl⟩⟩
  | false =>
    by_cases h0 : lf = 0
    · subst h0
      exact ⟨⟨rfl, h2, fun _ => rfl⟩, fun h => by cases h⟩
    · simp [h0]
      exact ⟨rfl, by simp only; omega, fun h => by cases h⟩
theorem Arm.next {s : Nat} {D : Dk} (h : Arm s D) (o : Opn) (h7 : o.kind ≠ 7) (h8 : o.kind ≠ 8) : ArmK s D (doD D o) := by
  have e1 : ∀ n x, appendD D n x = if namedL n = false then (D, 5) else if (D.quota : Int) - usedD D.files < x.length then (D, 3) else actD D (setF ⟨n, (match findF n D.files with | some f => f.bs | none => []) ++ x, match findF n D.files with | some f => f.sure | none => 0⟩ D.files) := by
    intro n x; unfold appendD actD; rfl
  unfold doD
  rw [e1]
  split
  · split
    · exact h.same 5 (by decide)
    · split
      · exact h.same 3 (by decide)
      · exact h.act _
  split
  · unfold syncD
    cases findF o.name D.files
    · exact h.same 5 (by decide)
    · exact h.act _
  split
  · unfold cutD
    cases findF o.name D.files
    · exact h.same 5 (by decide)
    · simp only []
      split
      · exact h.same 2 (by decide)
      · exact h.act _
  split
  · unfold renameD
    cases findF o.name D.files
    · exact h.same 5 (by decide)
    · simp only []
      split
      · exact h.same 5 (by decide)
      · exact h.act _
  split
  · unfold dropD
    cases findF o.name D.files
    · exact h.same 5 (by decide)
    · exact h.act _
  refine ⟨h, fun hg => ⟨?_, rfl⟩⟩
  simp [readD, hg]
/-- a power that is there again -/
theorem more_ok {q k : Nat} {D : Dk} (h : Cnt q k D) : (appendD (crashD D 0) [109, 111, 114, 101] []).2 = 0 := by
  have h1 := (h.crash 0).f.q
  have h2 := h.qt
  unfold appendD
  rw [if_neg (by decide), if_neg, if_pos (by simp [stepD, crashD])]
  have h3 : (crashD D 0).quota = q := h2
  rw [h3]
  simp; omega
/-- an act on the one disk -/
theorem do_dk {B w1 : World} {L : List Ent} {S : DkS} {i q : Nat} {a : Option Addr} {o : Opn} {bv : Value} (hs : St [] B w1 L) (j : Nat) (hL : L[j]? = some (rs (dkR S))) (hD : Fits S.D) (hq : q ≤ 16777216) (hact : ActAt B a i (o, bv)) (h1 : o.b.length ≤ 300) (h2 : o.name.length ≤ 200) (h3 : o.to.length ≤ 200) :
    Calls Try.prog 15 ([ptr S.bd, .agg (rdC ⟨0, 0, false, false, q, []⟩ (.slice none 0 0)), .agg #[.int .i64 o.kind, VS o.name, VS o.to, .int .i64 o.n, bv]] : List Value).toArray w1 fun e w' => ∃ T' : Two, DoP ⟨S, ⟨0, 0, false, false, q, []⟩, .slice none 0 0, fun _ => False⟩ o T' ∧ e = .returned (doV ⟨S, ⟨0, 0, false, false, q, []⟩, .slice none 0 0, fun _ => False⟩ T' o) ∧ Turns w1 w' (dkR S) (dkR T'.S) := by
  have hd : DkP S w1 := hs.res hL
  refine (do_any ⟨S, ⟨0, 0, false, false, q, []⟩, .slice none 0 0, fun _ => False⟩ o bv (fun k => k < B.heap.size) w1 ⟨hd, RFs.nil _ _ _ _, fun _ h => h.elim⟩ hD ((Cnt.zero q 0).fits (by decide) hq) ⟨by omega, by omega, by omega, hact.n⟩ ((RdB.of hact.bs).same fun k hk => hs.below.block k hk) (fun k hk => ⟨Nat.lt_of_lt_of_le hk hs.size, ?_, ?_⟩)).mono fun e w' ⟨T', h1, h2, h3⟩ => ⟨T', h1, h2, ?_⟩
  · have := hs.ownW _ (List.mem_of_getElem? hL) S.bd ((rsW _ _).2 (.inl rfl))
    simp only [inM_nil, or_false] at this
    show k ≠ S.bd
    omega
  · have := hs.ownW _ (List.mem_of_getElem? hL) S.bm ((rsW _ _).2 (.inr rfl))
    simp only [inM_nil, or_false] at this
    show k ≠ S.bm
    omega
  · refine ⟨h3.os, h3.tape, h3.output, h3.size, h3.old, h3.ok.d, h3.W, fun k hk => ?_⟩
    rcases h3.A k (hk.imp id .inl) with (h4 | h4 | h4) | h4
    · exact .inl (.inl h4)
    · exact .inl (.inr h4)
    · exact h4.elim
    · exact .inr h4
set_option maxRecDepth 100000 in
set_option maxHeartbeats 4000000 in
theorem law_armed (z : Int) (hz : -9223372036854775808 ≤ z ∧ z ≤ 9223372036854775807) (v : Value) (n : Nat) (O : Nat → Opn × Value) (w : World) (hS : Scr w v n O) : Calls Try.prog 3 ([.int .i64 z, v] : List Value).toArray w fun e w' => e = .returned (.bool true) ∧ Below w.heap.size w w' := by
  have hbig := large_any v n O
  obtain ⟨hn, a, c, rfl, hS⟩ := hS
  refine enterV tab_ok Try.func3 rfl Try.ntmps3 rfl (St.start w) ?_
  refine cv alive_any ?_
  refine cf rfl ?_
  refine cvs (fun w1 hs => hbig w1 ⟨hn, a, c, rfl, fun i hi => (hS i hi).below hs.below⟩) ?_
  cases hb : bigS O n with
  | true =>
    iterate 2 refine cf rfl ?_
    iterate 2 refine ct rfl ?_
    exact rt rfl
  | false =>
  iterate 2 refine ct rfl ?_
  refine cf rfl ?_
  obtain ⟨hn81, hsmall⟩ := bigS_no hb
  by_cases hz0 : z < 0
  · refine ct (decide_eq_true hz0) ?_
    exact rt rfl
  refine cf (decide_eq_false hz0) ?_
  obtain ⟨s, rfl⟩ : ∃ s : Nat, z = s := ⟨z.toNat, by omega⟩
  have hq' : 1000 ≤ 16777216 := by decide
  refine cM (α := Nat × Nat) (Φ := fun _ => True) (v := fun x => .tuple #[ptr x.1, .nilIface]) (r' := fun x => dkR (dk0 1000 x.1 x.2)) (fun w1 hs => (new_any 1000 hq' w1).mono fun e w' ⟨x, h0, h1, h2, h3, h4, h5⟩ => ⟨x, h0, h1, h2, h3, h4, fun k hk => (h5 k hk).elim⟩) (fun x _ => ?_)
  obtain ⟨bd, bm⟩ := x
  iterate 3 refine ct rfl ?_
  have harm : armD (dk0 1000 bd bm).D (s : Nat) = (⟨0, s, true, false, 1000, []⟩, 0) := if_neg hz0
  refine cTd (S := dk0 1000 bd bm) (D' := ⟨0, s, true, false, 1000, []⟩) (code := 0) 0 rfl (fun w1 hs => by have := arm_t (dk0 1000 bd bm) (s : Nat) w1 (hs.res (k := 0) rfl); rwa [harm] at this) (fun S1 hD1 hg1 => ?_)
  refine ct rfl ?_
  iterate 2 refine cf rfl ?_
  refine lp tab_ok (fun x : Nat × DkS => x.1 ≤ n ∧ Cnt 1000 x.1 x.2.D ∧ Arm s x.2.D ∧ x.2.bd = bd) (fun x => ⟨[(0, .int .i64 s), (5, ptr bd), (35, .slice a n c), (36, .int .i64 n), (37, .int .i64 x.1)], [rs (dkR x.2)], []⟩) (fun x => n - x.1)
    (0, S1) ⟨Nat.zero_le _, by rw [hD1]; exact ⟨rfl, Nat.zero_le _, by simp only; omega, (Cnt.zero 1000 0).f⟩, by rw [hD1]; exact ⟨rfl, by simp, fun h => by cases h⟩, hg1.bd⟩ ⟨⟨rfl, rfl, rfl, rfl, rfl, trivial⟩, .cons .nil, rfl⟩ ?_
  rintro ⟨i, S⟩ ⟨hi, hc, har, hpb⟩
  simp only at hi hc har hpb
  refine cd (fun h => ?_) (fun h => ?_)
  · have hil : i < n := by (try simp only at h); omega
    have hact := hS i hil
    obtain ⟨hs1, hs2, hs3⟩ := hsmall i hil
    obtain ⟨q, hq⟩ : ∃ q, q = O i := ⟨_, rfl⟩
    rw [← hq] at hact hs1 hs2 hs3
    obtain ⟨o, bv⟩ := q
    simp only at hs1 hs2 hs3
    have hact0 := hact
    obtain ⟨⟨blk, off, rfl, hblk, hck⟩, hrd, hnr, _⟩ := hact0
    obtain ⟨ba, bc, hbv⟩ : ∃ a c, bv = .slice a o.b.length c := by obtain ⟨a, c, e, _⟩ := hrd; exact ⟨a, c, by simpa [Lib.byteCells_length] using e⟩
    subst hbv
    simp only at hnr
    refine ⟨by omega, by (try simp only); omega, ?_⟩
    refine ldoN (d := #[.int .i64 o.kind, VS o.name, VS o.to, .int .i64 o.n, .slice ba o.b.length bc]) (fun j u hu => by rw [nad_eq, nmu_eq, Int.toNat_natCast]; exact hck j u hu) hblk rfl ?_
    intro b8
    refine sN 1 rfl rfl rfl ?_ (by kernel_rfl)
    refine ld1 1 rfl (v := .int .i64 o.kind) rfl ?_
    by_cases h7 : o.kind = 7
    · have e1 : (o.kind == 7) = true := by rw [h7]; rfl
      have e2 : ((o.kind == 7) == false) = false := by rw [e1]; rfl
      iterate 3 refine cf e2 ?_
      refine ct e1 ?_
      refine ct rfl ?_
      refine .as ((i + 1 : Nat) : Int) (by simp) (by simp only [mn]; omega) (by simp only [mx]; omega) ?_
      exact ⟨(i + 1, S), ⟨by (try simp only); omega, hc.up, har, hpb⟩, by (try simp only); omega, ⟨⟨rfl, rfl, rfl, rfl, rfl, trivial⟩, .cons .nil, rfl⟩⟩
    have e1 : (o.kind == 7) = false := beq_eq_false_iff_ne.2 h7
    have e2 : ((o.kind == 7) == false) = true := by rw [e1]; rfl
    iterate 2 refine ct e2 ?_
    refine ld1 1 rfl (v := .int .i64 o.kind) rfl ?_
    refine ct e2 ?_
    refine cf e1 ?_
    by_cases h8 : o.kind = 8
    · refine ct (by rw [h8]; rfl) ?_
      refine .as ((i + 1 : Nat) : Int) (by simp) (by simp only [mn]; omega) (by simp only [mx]; omega) ?_
      exact ⟨(i + 1, S), ⟨by (try simp only); omega, hc.up, har, hpb⟩, by (try simp only); omega, ⟨⟨rfl, rfl, rfl, rfl, rfl, trivial⟩, .cons .nil, rfl⟩⟩
    refine cf (beq_eq_false_iff_ne.2 h8) ?_
    have hfits := hc.fits (by omega) hq'
    refine cvs (fun w1 hs => by have := down_any S w1 (hs.res (k := 0) rfl); rwa [hpb] at this) ?_
    refine cvs (fun w1 hs => by have := used_any S w1 (hs.res (k := 0) rfl) (Nat.le_trans hfits.us (by decide)); rwa [hpb] at this) ?_
    refine bu (c := rdC ⟨0, 0, false, false, 1000, []⟩ (.slice none 0 0)) (by kernel_rfl) ?_
    refine ldN 1 rfl rfl ?_
    refine cT (α := Two) (Φ := fun T' => DoP ⟨S, ⟨0, 0, false, false, 1000, []⟩, .slice none 0 0, fun _ => False⟩ o T') (v := fun T' => doV ⟨S, ⟨0, 0, false, false, 1000, []⟩, .slice none 0 0, fun _ => False⟩ T' o) (r' := fun T' => dkR T'.S) 0 rfl (fun w1 hs => by have := do_dk (q := 1000) (o := o) (bv := .slice ba o.b.length bc) hs 0 rfl hfits hq' hact hs1 hs2 hs3; rwa [hpb] at this) (fun T' hT' => ?_)
    have hc' := hc.doD o hs1 hnr.2
    obtain ⟨har', hgone⟩ := har.next o h7 h8
    obtain ⟨S', M', fv', rr'⟩ := T'
    obtain ⟨hD', hbd', hbm', hM', fa', fn', fc', hfv'⟩ := hT'
    simp only at hD' hbd' hbm' hM' hfv'
    subst hfv'
    rw [← hD'] at hc' har' hgone
    have hfits' := hc'.fits (by omega) hq'
    have hb' : S'.bd = bd := hbd'.trans hpb
    intro b11
    refine sN 2 rfl rfl (rdC_one M' rfl) ?_ (by kernel_rfl)
    have hsm := har'.sm
    refine cvs (v := .int .i64 S'.D.steps) (fun w1 hs => by have := steps_any S' w1 (hs.res (k := 0) rfl); rwa [hb'] at this) ?_
    have f1 : decide (((S'.D.steps : Nat) : Int) > (s : Nat)) = false := decide_eq_false (by omega)
    have f2 : (decide (((S'.D.steps : Nat) : Int) > (s : Nat)) == false) = true := by rw [f1]; rfl
    iterate 2 refine ct f2 ?_
    cases hg : S.D.gone with
    | true =>
      obtain ⟨hcode, hused⟩ := hgone hg
      have g1 : ((((doD S.D o).2 : Nat) : Int) == 0) = false := beq_eq_false_iff_ne.2 (by omega)
      have g2 : (((((doD S.D o).2 : Nat) : Int) == 0) == false) = true := by rw [g1]; rfl
      have g3 : (((usedD S'.D.files : Nat) : Int) != (usedD S.D.files : Nat)) = false := by rw [hused]; simp
      have g4 : ((((usedD S'.D.files : Nat) : Int) != (usedD S.D.files : Nat)) == false) = true := by rw [g3]; rfl
      iterate 3 refine ct rfl ?_
      iterate 2 refine ct g2 ?_
      refine cvs (v := .int .i64 (usedD S'.D.files)) (fun w1 hs => by have := used_any S' w1 (hs.res (k := 0) rfl) (Nat.le_trans hfits'.us (by decide)); rwa [hb'] at this) ?_
      iterate 2 refine ct g2 ?_
      refine ct rfl ?_
      refine cf g1 ?_
      refine ct f2 ?_
      refine ct rfl ?_
      refine cf f1 ?_
      iterate 2 refine ct g4 ?_
      refine cvs (v := .bool S'.D.gone) (fun w1 hs => by have := down_any S' w1 (hs.res (k := 0) rfl); rwa [hb'] at this) ?_
      refine ct g4 ?_
      cases hg2 : S'.D.gone with
      | true =>
        have hl0 := har'.gn hg2
        have k1 : (((S'.D.steps : Nat) : Int) != (s : Nat)) = false := by rw [bne_eq_false_iff_eq]; omega
        iterate 2 refine ct rfl ?_
        refine cvs (v := .int .i64 S'.D.steps) (fun w1 hs => by have := steps_any S' w1 (hs.res (k := 0) rfl); rwa [hb'] at this) ?_
        iterate 2 refine ct rfl ?_
        refine ct g4 ?_
        refine ct rfl ?_
        refine cf g3 ?_
        refine cf k1 ?_
        refine .as ((i + 1 : Nat) : Int) (by simp) (by simp only [mn]; omega) (by simp only [mx]; omega) ?_
        exact ⟨(i + 1, S'), ⟨by (try simp only); omega, hc', har', hb'⟩, by (try simp only); omega, ⟨⟨rfl, rfl, rfl, rfl, rfl, trivial⟩, .cons .nil, rfl⟩⟩
      | false =>
        iterate 4 refine cf rfl ?_
        refine ct g4 ?_
        refine cf rfl ?_
        refine cf g3 ?_
        refine cf rfl ?_
        refine .as ((i + 1 : Nat) : Int) (by simp) (by simp only [mn]; omega) (by simp only [mx]; omega) ?_
        exact ⟨(i + 1, S'), ⟨by (try simp only); omega, hc', har', hb'⟩, by (try simp only); omega, ⟨⟨rfl, rfl, rfl, rfl, rfl, trivial⟩, .cons .nil, rfl⟩⟩
    | false =>
      iterate 4 refine cf rfl ?_
      refine ct f2 ?_
      refine cf rfl ?_
      refine cf f1 ?_
      iterate 2 refine ct rfl ?_
      refine cvs (v := .bool S'.D.gone) (fun w1 hs => by have := down_any S' w1 (hs.res (k := 0) rfl); rwa [hb'] at this) ?_
      refine ct rfl ?_
      cases hg2 : S'.D.gone with
      | true =>
        have hl0 := har'.gn hg2
        have k1 : (((S'.D.steps : Nat) : Int) != (s : Nat)) = false := by rw [bne_eq_false_iff_eq]; omega
        iterate 2 refine ct rfl ?_
        refine cvs (v := .int .i64 S'.D.steps) (fun w1 hs => by have := steps_any S' w1 (hs.res (k := 0) rfl); rwa [hb'] at this) ?_
        iterate 2 refine ct rfl ?_
        refine ct rfl ?_
        refine ct rfl ?_
        refine cf rfl ?_
        refine cf k1 ?_
        refine .as ((i + 1 : Nat) : Int) (by simp) (by simp only [mn]; omega) (by simp only [mx]; omega) ?_
        exact ⟨(i + 1, S'), ⟨by (try simp only); omega, hc', har', hb'⟩, by (try simp only); omega, ⟨⟨rfl, rfl, rfl, rfl, rfl, trivial⟩, .cons .nil, rfl⟩⟩
      | false =>
        iterate 4 refine cf rfl ?_
        refine ct rfl ?_
        refine cf rfl ?_
        refine cf rfl ?_
        refine cf rfl ?_
        refine .as ((i + 1 : Nat) : Int) (by simp) (by simp only [mn]; omega) (by simp only [mx]; omega) ?_
        exact ⟨(i + 1, S'), ⟨by (try simp only); omega, hc', har', hb'⟩, by (try simp only); omega, ⟨⟨rfl, rfl, rfl, rfl, rfl, trivial⟩, .cons .nil, rfl⟩⟩
  · refine cT (α := DkS) (Φ := fun S' => S'.D = crashD S.D 0 ∧ S'.bd = bd) (v := fun _ => .tuple #[]) (r' := dkR) 0 rfl (fun w1 hs => by
      have := crash_any S 0 (by decide) w1 (hs.res (k := 0) rfl)
      rw [hpb] at this
      exact this.mono fun e w' ⟨S', ⟨h1, h2, _⟩, he, ht⟩ => ⟨S', ⟨h1, h2⟩, he, ht⟩) (fun S2 hS2 => ?_)
    obtain ⟨hD2, hb2⟩ := hS2
    have hg2 : S2.D.gone = false := by rw [hD2]; rfl
    have hc2 : Cnt 1000 i S2.D := by rw [hD2]; exact hc.crash 0
    have hf2 := hc2.fits (by omega) hq'
    refine cvs (v := .bool false) (fun w1 hs => by have := down_any S2 w1 (hs.res (k := 0) rfl); rwa [hb2, hg2] at this) ?_
    iterate 2 refine ct rfl ?_
    refine cTd (S := S2) (D' := (appendD S2.D [109, 111, 114, 101] []).1) (code := 0) 0 rfl (fun w1 hs => by
      have := append_any S2 [109, 111, 114, 101] [] (by decide) (by decide) (.slice none 0 0) w1 (hs.res (k := 0) rfl) (rd_nil _ _ _) (fun w' _ _ => rd_nil _ _ _) hf2.st hf2.lf (Nat.le_trans hf2.us (by decide)) hf2.qt
      rwa [hb2, show (appendD S2.D [109, 111, 114, 101] []).2 = 0 by rw [hD2]; exact more_ok hc] at this) (fun S3 hD3 hg3 => ?_)
    refine ct rfl ?_
    refine ct rfl ?_
    exact rt rfl
end Go.Proofs.Ytdgkaboaapfnmaa
