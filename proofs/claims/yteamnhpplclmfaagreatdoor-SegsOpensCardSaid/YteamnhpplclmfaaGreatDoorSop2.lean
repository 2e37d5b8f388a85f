/- For every size, all files and every arm the law SegsOpens returns true; no condition. -/
import Derived.Test.YteamnhpplclmfaaGreatDoorSop1
section
namespace Go.Proofs.YteamnhpplclmfaaGreatDoor
open Go.RowKit Go.Sx
set_option linter.unusedVariables false
theorem rman_le (M : Dk) : rmanP M ≤ 1048576 := by
  unfold rmanP
  split
  · decide
  · unfold toldP
    split
    · decide
    · split
      · omega
      · decide
def rz : Array Value := rsC ⟨0, 0, false, false, 0, []⟩ (.slice none 0 0) ⟨0, [], 0, 0, 0, 0⟩ (.slice none 0 0)
def s00 (size last : Nat) : Sr := ⟨size, [], 0, last, 0, 0⟩
def rv0 (F : Fl) (size last : Nat) : Rv := ⟨F.M, F.fa, F.fc, F.ps, F.rr, none, [], fun _ => False, s00 size last⟩
set_option maxRecDepth 100000 in
set_option maxHeartbeats 4000000 in
theorem ropen_man {rr0 : Nat → Prop} {o : OpS} {w : World} {size b4 b6 : Nat} {M : Dk} {q k : Nat} (hk : k ≤ 300000) (hq : q ≤ 16777216) (ho : o = ropenP M size) (h0 : (rdr1 M).2 = 0) {F : Fl} (hF : F.M = (rdr1 M).1) (hok : RvOk rr0 w (rv0 F size 0)) (hB : Rb q k F.M) :
    CodeP ⟨Tryz.prog, tab, 194, [], w, none⟩ (dropS 6 ((Tryz.f26.body).getD .skip)) (retK ⟨Tryz.prog, tab, 194, [], w, none⟩ Tryz.f26 (fun v w' => RefO rr0 w o.D o.S o.code (.returned v) w')) ⟨[(4, ptr b4), (6, ptr b6), (7, .int .i64 0)], rvE (rv0 F size 0) ++ [cl b4 rz TRS, cl b6 (rvS (rv0 F size 0)) TRS], []⟩ := by
  have hfl := hB.fl
  have hml := rman_le F.M
  have e1 : ∀ {α : Type} {a b : α}, (if (rdr1 M).2 ≠ 0 then a else b) = b := fun {α a b} => if_neg (by rw [h0]; decide)
  have hok1 : ∀ n, RvOk rr0 w (rv0 F size n) := fun n => ⟨hok.fs, hok.sh, hok.rr, hok.row, hok.pls⟩
  refine cutS tab_ok (fun _ : Unit => rmanP F.M ≠ 0) (fun _ => ⟨[(4, ptr b4), (6, ptr b6), (7, .int .i64 0)], rvE (rv0 F size (rmanP F.M)) ++ [cl b4 rz TRS, cl b6 (rvS (rv0 F size (rmanP F.M))) TRS], []⟩) 2 ?_ (fun _ hy => ?_)
  case refine_2 =>
    have e2 : ∀ {α : Type} {a b : α}, (if rmanP (rdr1 M).1 = 0 then a else b) = b := fun {α a b} => if_neg (by rw [← hF]; exact hy)
    refine ropen_loads (Y := rloadsD (rmanP F.M) ⟨F.M, [], 0⟩ (rmanP F.M) 1) rfl hml hk hq (fun hY => ?_) (hok1 _) rfl (by omega) hB rfl (fun hY => ?_)
    · rw [hF] at hY ⊢
      rw [ho]; unfold ropenP; rw [e1, e2, if_pos hY]; exact ⟨rfl, rfl⟩
    · rw [hF] at hY ⊢
      rw [ho]; unfold ropenP; rw [e1, e2, if_neg (by rw [hY]; decide)]; exact ⟨rfl, rfl, rfl⟩
  obtain ⟨M1, fa, fc, ps, rr⟩ := F
  dsimp only at hfl hml hF hB
  refine ldP 4 (d := rdC M1 (.slice fa ps.length fc)) rfl rfl rfl ?_
  refine cvs (fun w1 hs => rman_any M1 _ rr (by omega) (fun f hf => Nat.le_trans (hB.fz f hf) hq) w1 (hok.rfs (hs.res (k := 0) rfl)) (hs.res (k := 0) rfl : (mP rr fa ps).p w1).2) ?_
  refine s1e 4 (rvS (rv0 ⟨M1, fa, fc, ps, rr⟩ size (rmanP M1))) rfl (by show 9 < 11; decide) rfl ?_
  refine ld1 4 rfl (v := .int .i64 (rmanP M1 : Nat)) rfl ?_
  refine cq (fun h => ?_) (fun h => ?_)
  · have hz : rmanP M1 = 0 := by omega
    refine ldN 4 rfl rfl ?_
    refine sN 3 rfl rfl (rvS_one _) ?_ (by kernel_rfl)
    refine ldN 3 rfl rfl ?_
    have e3 : o = ⟨⟨size, [], 0, 0, 0, 0⟩, (rdr1 M).1, 6⟩ := by rw [ho]; unfold ropenP; rw [e1, if_pos (by rw [← hF]; exact hz)]
    exact ⟨fun w1 hs => rv_out (hok1 (rmanP M1)) hs (.cons (.cons (.cons (.drop (.drop .nil))))) (by rw [e3]; exact hF) (fun h9 => by rw [e3] at h9; exact absurd h9 (show ¬ (6 : Nat) = 0 by decide)) (by rw [e3]; rfl)⟩
  · exact ⟨(), by show rmanP M1 ≠ 0; omega, ⟨⟨rfl, rfl, rfl, trivial⟩, Sub.refl _, rfl⟩⟩
set_option maxRecDepth 100000 in
set_option maxHeartbeats 4000000 in
/-- Open, where the size and the disk allow it -/
theorem ropen_any (M : Dk) (fv : Value) (rr0 : Nat → Prop) (size : Nat) (hs1 : 64 ≤ size) (hs2 : size ≤ 1048576) (hg : M.gone = false) {q k : Nat} (hB : Rb q k M) (hk : k ≤ 200000) (hq : q ≤ 16777216) (w : World) (h : RFs rr0 w fv M.files) :
    Calls Tryz.prog 26 ([.agg (rdC M fv), .int .i64 size] : List Value).toArray w (RefO rr0 w (ropenP M size).D (ropenP M size).S (ropenP M size).code) := by
  obtain ⟨o, ho⟩ : ∃ o, o = ropenP M size := ⟨_, rfl⟩
  rw [← ho]
  obtain ⟨ps, fa, fc, e1, rfl, hsh, hm⟩ := rfs_mP h
  obtain ⟨rr, hrr⟩ : ∃ rr, rr = fun k => rr0 k ∧ k < w.heap.size := ⟨_, rfl⟩
  rw [← hrr] at hm
  have hfl := hB.fl
  have hst := hB.st
  have h1 : St [] w w [rs (mP rr fa ps)] := St.from w [] _ (fun e he => by obtain rfl : e = rs (mP rr fa ps) := (by simpa using he); exact ⟨(rsOk _ _).2 hm, fun k hk => by simp [mP] at hk⟩) (by simp)
  have h2 : St [] w w [rs (mP rr fa ps), dead, rs (bgR (fun _ => False) [] [])] := h1.deads.push (e := rs (bgR (fun _ => False) [] [])) (Below.refl _ _) ((rsOk _ _).2 ⟨fun i v p hv => by simp at hv, fun k hk => hk.elim⟩) (fun k hk => ((rsW _ _).1 hk).elim) (fun k hk => by simp [bgR] at hk)
  have hok : ∀ n, RvOk rr0 w (rv0 ⟨M, fa, fc, ps, rr⟩ size n) := fun n => ⟨e1, hsh, fun j hj => by rw [hrr] at hj; exact .inl hj.1, Rw.nil 1, ⟨rfl, fun i v p hv => by simp [rv0] at hv⟩⟩
  have hrfs : ∀ {u : World}, (mP rr fa ps).p u → RFs rr u (.slice fa ps.length fc) M.files := fun h => (hok 0).rfs h
  refine (enterP tab_ok Tryz.func26 rfl Tryz.ntmps26 rfl h2 (R := fun v w' => RefO rr0 w o.D o.S o.code (.returned v) w') ?_).mono (fun e w' ⟨u, he, h1⟩ => by rw [he]; exact h1)
  refine cutS tab_ok (fun y : Fl × Nat × Nat => (rdr1 M).2 = 0 ∧ y.1.M = (rdr1 M).1 ∧ RvOk rr0 w (rv0 y.1 size 0) ∧ Rb q (k + 1) y.1.M) (fun y => ⟨[(4, ptr y.2.1), (6, ptr y.2.2), (7, .int .i64 0)], rvE (rv0 y.1 size 0) ++ [cl y.2.1 rz TRS, cl y.2.2 (rvS (rv0 y.1 size 0)) TRS], []⟩) 6 ?_ (fun y ⟨y1, y2, y3, y4⟩ => ropen_man (by omega) hq ho y1 y2 y3 y4)
  intro b2 b4
  refine ldN 3 rfl rfl ?_
  refine bu (c := rvS (rv0 ⟨M, fa, fc, ps, rr⟩ size 0)) (by kernel_rfl) ?_
  intro b6
  refine sN 5 rfl rfl (rvS_one _) ?_ (by kernel_rfl)
  have d1 : decide ((size : Int) < 64) = false := decide_eq_false (by omega)
  have d2 : (decide ((size : Int) < 64) == false) = true := by rw [d1]; rfl
  have d3 : decide ((size : Int) > 1048576) = false := decide_eq_false (by omega)
  repeat (first | refine ct d2 ?_ | refine cf d1 ?_ | refine cf d3 ?_)
  refine ld1 3 rfl (v := .bool M.gone) rfl ?_
  refine cf hg ?_
  refine ldP 5 (d := rdC M (.slice fa ps.length fc)) rfl rfl rfl ?_
  refine cvs (fun w1 hs => rat_any M _ M.files rr newB (by omega) w1 (hrfs (hs.res (k := 0) rfl))) ?_
  rcases at_find newB M.files with ⟨hf1, hf2⟩ | ⟨i, f, hf0, hf1, hf2⟩
  · rw [hf2]
    have e2 : rdr1 M = (M, 0) := by unfold rdr1; rw [if_neg (by unfold hasD; rw [hf1]; decide)]
    refine cf rfl ?_
    exact ⟨(⟨M, fa, fc, ps, rr⟩, b4, b6), ⟨by rw [e2], by rw [e2], hok 0, hB.le (by omega)⟩, ⟨⟨rfl, rfl, rfl, trivial⟩, (.cons (.cons (.cons (.drop (.cons (.cons .nil)))))), rfl⟩⟩
  rw [hf2]
  have e2 : rdr1 M = rdropD M newB := by unfold rdr1; rw [if_pos (by unfold hasD; rw [hf1]; rfl)]
  refine ct (decide_eq_true (by omega)) ?_
  have hB1 := hB.drop newB
  obtain ⟨y, hy⟩ : ∃ y, y = rdropD M newB := ⟨_, rfl⟩
  rw [← hy] at e2 hB1
  refine ldP 5 (d := rdC M (.slice fa ps.length fc)) rfl rfl rfl ?_
  refine cRs (M' := y.1) (code := y.2) 0 rfl (fun w1 hs => by rw [hy]; exact rdrop_any M _ rr newB (by omega) (by omega) hB.lf w1 (hrfs (hs.res (k := 0) rfl)) (hs.res (k := 0) rfl : (mP rr fa ps).p w1).2) (fun ps2 fa2 fc2 rr2 g1 g2 g3 => ?_)
  have hok2 : RvOk rr0 w (rv0 ⟨y.1, fa2, fc2, ps2, rr2⟩ size 0) := ⟨g1, g2, fun j hj => (g3 j hj).elim ((hok 0).rr j) .inr, Rw.nil 1, (hok 0).pls⟩
  refine sP 5 (d := rdC y.1 (.slice fa2 ps2.length fc2)) rfl (by show 0 + 6 ≤ 11; decide) rfl (e := rvS (rv0 ⟨y.1, fa2, fc2, ps2, rr2⟩ size 0)) rfl ?_ (by kernel_rfl)
  by_cases hc : y.2 = 0
  · rw [hc]
    refine cf rfl ?_
    exact ⟨(⟨y.1, fa2, fc2, ps2, rr2⟩, b4, b6), ⟨by rw [e2]; exact hc, by rw [e2], hok2, hB1⟩, ⟨⟨rfl, rfl, rfl, trivial⟩, (.cons (.cons (.cons (.drop (.cons (.cons .nil)))))), rfl⟩⟩
  · refine ct (by rw [bne_iff_ne]; omega) ?_
    refine ldN 5 rfl rfl ?_
    refine sN 4 rfl rfl (rvS_one _) ?_ (by kernel_rfl)
    refine ldN 4 rfl rfl ?_
    have e3 : o = ⟨⟨size, [], 0, 0, 0, 0⟩, y.1, y.2⟩ := by rw [ho]; unfold ropenP; rw [if_pos (by rw [e2]; exact hc), e2]
    exact ⟨fun w1 hs => rv_out hok2 hs (.cons (.cons (.cons (.drop (.drop (.drop .nil)))))) (by rw [e3]; rfl) (fun h9 => by rw [e3] at h9; exact absurd h9 hc) (by rw [e3]; rfl)⟩
set_option maxRecDepth 100000 in
set_option maxHeartbeats 1000000 in
/-- Open, where the size is out of range -/
theorem ropen_range (M : Dk) (a : Option Addr) (n c : Nat) (size : Int) (hs : size < 64 ∨ 1048576 < size) (w : World) :
    Calls Tryz.prog 26 ([.agg (rdC M (.slice a n c)), .int .i64 size] : List Value).toArray w fun e w' => e = .returned (.tuple #[.agg #[.int .i64 M.quota, .int .i64 M.steps, .int .i64 M.left, .bool M.armed, .bool M.gone, .slice a n c, .int .i64 size, .slice none 0 0, .int .i64 0, .int .i64 0, .int .i64 0], .int .i64 2]) ∧ Below w.heap.size w w' := by
  refine enterV tab_ok Tryz.func26 rfl Tryz.ntmps26 rfl (St.start w) ?_
  intro b2 b4
  refine ldN 0 rfl rfl ?_
  refine bu (c := #[.int .i64 M.quota, .int .i64 M.steps, .int .i64 M.left, .bool M.armed, .bool M.gone, .slice a n c, .int .i64 size, .slice none 0 0, .int .i64 0, .int .i64 0, .int .i64 0]) (by kernel_rfl) ?_
  intro b6
  refine sN 2 rfl rfl rfl ?_ (by kernel_rfl)
  by_cases h1 : size < 64
  · have d1 : decide (size < 64) = true := decide_eq_true h1
    have d2 : (decide (size < 64) == false) = false := by rw [d1]; rfl
    repeat (first | refine cf d2 ?_ | refine ct d1 ?_ | refine ct rfl ?_)
    refine ldN 2 rfl rfl ?_
    refine sN 1 rfl rfl rfl ?_ (by kernel_rfl)
    refine ldN 1 rfl rfl ?_
    exact rt rfl
  · have d1 : decide (size < 64) = false := decide_eq_false h1
    have d2 : (decide (size < 64) == false) = true := by rw [d1]; rfl
    have d3 : decide (size > 1048576) = true := decide_eq_true (by omega)
    repeat (first | refine ct d2 ?_ | refine cf d1 ?_ | refine ct d3 ?_)
    refine ldN 2 rfl rfl ?_
    refine sN 1 rfl rfl rfl ?_ (by kernel_rfl)
    refine ldN 1 rfl rfl ?_
    exact rt rfl
end Go.Proofs.YteamnhpplclmfaaGreatDoor
end
section
namespace Go.Proofs.YteamnhpplclmfaaGreatDoor
open Go.RowKit Go.Sx
set_option linter.unusedVariables false
theorem infoT : (Tryz.prog.info? 9).map (fun i => (i.zero, i.size, i.bytes)) = some (some (.string ⟨#[]⟩), 1, 16) := by kernel_rfl
theorem undTs : Tryz.prog.underlying 106 = some (.slice 9) := by kernel_rfl
theorem bsT0 (w : World) : (Instr.buildSlice 106 0 #[]).run Tryz.prog w = .ok (.slice (some ⟨w.heap.size, 0, none⟩) 0 0) (w.alloc (.cells #[] 9)) := by
  obtain ⟨i, hi, hz, hs, hb⟩ := infoOf infoT
  simp [Instr.buildSlice, run_underlying undTs, sizeOf, typeInfo, hi, newRow, Instr.fill]
  exact congrArg (fun c => w.alloc (.cells c 9)) (Array.ext' (by simp))
theorem bsT1 (l : List UInt8) (w : World) : (Instr.buildSlice 106 1 #[(0, VS l)]).run Tryz.prog w = .ok (.slice (some ⟨w.heap.size, 0, none⟩) 1 1) (w.alloc (.cells #[VS l] 9)) := by
  obtain ⟨i, hi, hz, hs, hb⟩ := infoOf infoT
  exact run_buildSlice w _ _ 1 _ #[VS l] i (.string ⟨#[]⟩) undTs hi hz (by rw [hs]; decide) (by rw [hs]; decide) (by rw [hs]; kernel_rfl)
theorem txt_app (a b : List (List UInt8)) : txtCells (a ++ b) = txtCells a ++ txtCells b := by simp [txtCells]
theorem mP_row {rr : Nat → Prop} {fb fo : Nat} {ps : List PF} {u : World} (h : (mP rr (some ⟨fb, fo, none⟩) ps).p u) {i : Nat} (hi : i < ps.length) : ∀ (j : Nat) (v : Value), (#[VS ps[i].2.name, ps[i].1, .int .i64 ps[i].2.sure] : Array Value).toList[j]? = some v → u.cell? ⟨fb, fo + i * 3 + j, none⟩ = some v := by
  obtain ⟨b, o, e, _, _, hc⟩ := h.1.2 (fun h0 => by rw [h0] at hi; exact absurd hi (by simp))
  injection e with e
  injection e with e1 e2 _
  subst e1 e2
  obtain ⟨c1, c2, c3⟩ := rfC_get ps i hi
  intro j v hv
  rw [Nat.add_assoc]
  rcases j with _ | _ | _ | j
  · exact hc _ _ (c1.trans hv)
  · exact hc _ _ (c2.trans hv)
  · exact hc _ _ (c3.trans hv)
  · simp at hv
theorem crash_whole {f : Fe} (h1 : f.sure ≤ f.bs.length) (h2 : f.bs.length ≤ 16777216) : (crashF 1073741824 f).bs = f.bs := by
  have : f.sure + min (1073741824 : Int).toNat (f.bs.length - f.sure) = f.bs.length := by
    have : (1073741824 : Int).toNat = 1073741824 := rfl
    omega
  unfold crashF
  simp only [this, List.take_length]
set_option maxRecDepth 100000 in
set_option maxHeartbeats 4000000 in
theorem same_disk (S : DkS) (M : Dk) (fa : Option Addr) (fc : Nat) (ps : List PF) (rr : Nat → Prop) (he : Eqv S.D M) {q k : Nat} (hB : Bd q k S.D) (hq : q ≤ 16777216) (hk : k ≤ 900000) (hps : ps.map (·.2) = M.files) (hsh : PsOk fa ps) (w : World) (h : DkP S w) (hm : (mP rr fa ps).p w) :
    Calls Tryz.prog 36 ([ptr S.bd, .agg (rdC M (.slice fa ps.length fc))] : List Value).toArray w fun e w' => e = .returned (.bool true) ∧ Below w.heap.size w w' := by
  have hpl : ps.length = M.files.length := by rw [← hps]; simp
  have hRb : Rb q k M := ⟨S.D, he, hB⟩
  have hfl := hRb.fl
  refine enterV tab_ok Tryz.func36 rfl Tryz.ntmps36 rfl (St.reads (L := [rs (dkR S).rd, rs (mP rr fa ps)]) (fun e he => by
    simp only [List.mem_cons, List.not_mem_nil, or_false] at he
    rcases he with rfl | rfl
    · exact ⟨(rsOk _ _).2 h, fun k hk => ((rsW _ _).1 hk).elim⟩
    · exact ⟨(rsOk _ _).2 hm, fun k hk => ((rsW _ _).1 hk).elim⟩)) ?_
  intro b3
  refine .mk _ _ bsT0 (fun b5 => ?_)
  refine cM (α := Nat × Nat) (Φ := fun _ => True) (v := fun x => ptr x.1) (r' := fun x => dkR (S.at x)) (fun w1 hs => (copyd_any S w1 (hs.res (k := 0) rfl)).mono fun e w' ⟨x, h0, h1, h2, h3, h4⟩ => ⟨x, h0, h1, h2, h3, h4, fun k hk => .inr ⟨rs (dkR S).rd, by simp, (rsA _ _).2 (.inr (.inr hk)), fun hw => ((rsW _ _).1 hw).elim⟩⟩) (fun x _ => ?_)
  refine cT (α := DkS) (Φ := fun S2 => S2.D = crashD S.D 1073741824 ∧ S2.bd = x.1) (v := fun _ => .tuple #[]) (r' := dkR) 4 rfl (fun w1 hs => (crash_any (S.at x) 1073741824 (by decide) w1 (hs.res (k := 4) rfl)).mono fun e w' ⟨S', ⟨h1, h2, h3⟩, h4, h5⟩ => ⟨S', ⟨h1, h2⟩, h4, h5⟩) (fun S2 hS2 => ?_)
  obtain ⟨hS2, hb2⟩ := hS2
  refine ld1 2 rfl (v := .slice fa ps.length fc) rfl ?_
  refine lp tab_ok (fun y : Nat × Sx.Own => y.1 ≤ ps.length ∧ Rw 1 y.1 y.2 (txtCells ((ps.take y.1).map (·.2.name)))) (fun y => ⟨[(0, ptr S.bd), (3, ptr b3), (5, sv y.2 y.1), (6, ptr x.1), (17, .slice fa ps.length fc), (18, .int .i64 ps.length), (19, .int .i64 y.1)], [rs (dkR S).rd, rs (mP rr fa ps), cl b3 (rdC M (.slice fa ps.length fc)) TR, se y.2 (txtCells ((ps.take y.1).map (·.2.name))) 9, rs (dkR S2)], []⟩) (fun y => ps.length - y.1)
    (0, some (b5, 0, [])) ⟨Nat.zero_le _, rfl, Nat.le_refl _, by unfold maxLen; omega, rfl⟩ ⟨⟨rfl, rfl, rfl, rfl, rfl, rfl, rfl, trivial⟩, Sub.refl _, rfl⟩ ?_
  rintro ⟨i, r⟩ ⟨hi, hR⟩
  dsimp only at hi hR ⊢
  refine cd (fun hc => ?_) (fun hc => ?_)
  · have hil : i < ps.length := by omega
    obtain ⟨fb, fo, rfl⟩ := hsh.ad (by intro h0; rw [h0] at hil; exact absurd hil (by simp))
    obtain ⟨qa, qc, hq0, hqc, hqs⟩ := hsh.sh ps[i] (List.getElem_mem hil)
    have hrow : ∀ w1, (mP rr (some ⟨fb, fo, none⟩) ps).p w1 → _ := fun w1 h => mP_row h hil
    have hrd : ∀ w1, (mP rr (some ⟨fb, fo, none⟩) ps).p w1 → Rd w1 _ _ := fun w1 h => mP_rd h hil hq0
    have hfm : ps[i].2 ∈ M.files := by rw [← hps]; exact List.mem_map_of_mem (List.getElem_mem hil)
    have e9 : txtCells ((ps.take (i + 1)).map (·.2.name)) = txtCells ((ps.take i).map (·.2.name)) ++ [VS ps[i].2.name] := by
      rw [List.take_succ_eq_append_getElem hil, List.map_append, txt_app]; simp [txtCells]
    generalize ps[i].2 = f at hq0 hqc hrow hrd hfm e9
    have hfind : findF f.name S.D.files = some f := by rw [← he.f.find]; exact find_some he.f.s.nd hfm
    have hfz := hRb.fz f hfm
    have hfs := hRb.sz f hfm
    have hread : readD S2.D f.name = (f.bs, 0) := by
      rw [hS2]
      have := readN (crashD S.D 1073741824) f.name rfl (f := crashF 1073741824 f) (by show findF f.name (S.D.files.map (crashF 1073741824)) = _; rw [find_crashF, hfind]; rfl)
      rw [this, crash_whole hfs (by omega)]
    rw [hq0] at hrow
    refine ⟨by omega, by omega, ?_⟩
    refine .mk #[VS f.name, .slice qa f.bs.length qc, .int .i64 f.sure] rfl (fun w1 hs j v hv => by simp only [nad_eq, nmu_eq, Int.toNat_natCast]; exact hrow w1 (hs.res (k := 1) rfl) j v hv) ?_
    intro b8
    refine sN 5 rfl rfl rfl ?_ (by kernel_rfl)
    refine ld1 5 rfl (v := VS f.name) rfl ?_
    refine .mk _ _ (bsT1 _) (fun b9 => ?_)
    refine ap1 3 6 tab_ok rfl infoT rfl rfl hR rfl rfl (by omega) (by unfold maxLen; omega) (fun r' hR' => ?_)
    rw [← e9] at hR' ⊢
    refine ld1 5 rfl (v := VS f.name) rfl ?_
    rw [← hb2]
    refine coV (n := f.bs.length) (z := 1) (xs := Lib.byteCells f.bs) (e := 5) (fun v => .tuple #[v, .nilIface]) (fun w1 hs => by have := read_any S2 f.name w1 (hs.res (k := 4) rfl); rw [hread] at this; exact this) (fun r1 hR1 => ?_)
    refine dr [rs (dkR S).rd, rs (mP rr (some ⟨fb, fo, none⟩) ps), cl b3 (rdC M (.slice (some ⟨fb, fo, none⟩) ps.length fc)) TR, dead, dead, cl b8 #[VS f.name, .slice qa f.bs.length qc, .int .i64 f.sure] TFi, dead, se r1 (Lib.byteCells f.bs) 5] 99 (.t 0 (.t 1 (.t 2 (.t 3 (.t 4 (.t 5 (.t 6 (.t 7 (.t 8 (.t 9 (.t 10 (.t 11 (.t 12 (.t 13 (.t 14 (.t 15 (.t 16 (.t 17 .nil)))))))))))))))))) tab_ok mixed_ok (by kernel_rfl) (.cons (.cons (.cons (.dead (.dead (.cons (.dead (.cons .nil)))))))) ?_
    repeat (first | refine ct rfl ?_ | refine cf rfl ?_)
    refine ld1 5 rfl (v := .slice qa f.bs.length qc) rfl ?_
    repeat (first | refine ct rfl ?_ | refine cf rfl ?_)
    refine czs (fun w1 hs => same_yes _ _ f.bs w1 (Rd.own hs 7 rfl hR1) (hrd w1 (hs.res (k := 1) rfl))) ?_
    repeat (first | refine ct rfl ?_ | refine cf rfl ?_)
    refine ld1 5 rfl (v := VS f.name) rfl ?_
    repeat (first | refine ct rfl ?_ | refine cf rfl ?_)
    refine czs (v := .int .i64 f.sure) (fun w1 hs => by have := sure_any S f.name w1 (hs.res (k := 0) rfl); rwa [hfind] at this) ?_
    repeat (first | refine ct rfl ?_ | refine cf rfl ?_)
    refine ld1 5 rfl (v := .int .i64 f.sure) rfl ?_
    have d1 : (((f.sure : Nat) : Int) != ((f.sure : Nat) : Int)) = false := bne_self_eq_false _
    repeat (first | refine ct rfl ?_ | refine cf rfl ?_ | refine cf d1 ?_)
    refine .as ((i + 1 : Nat) : Int) (by omega) (by simp only [mn]; omega) (by simp only [mx]; omega) ?_
    exact ⟨(i + 1, r'), ⟨hil, hR'⟩, by dsimp only; omega, ⟨⟨rfl, rfl, rfl, rfl, rfl, rfl, rfl, trivial⟩, (.cons (.cons (.cons (.cons (.cons (.drop (.drop (.drop .nil)))))))), rfl⟩⟩
  · obtain rfl : i = ps.length := by omega
    rw [List.take_of_length_le (Nat.le_refl _)] at hR
    simp only [List.take_of_length_le (Nat.le_refl _)]
    have hnm : ps.map (·.2.name) = M.files.map (·.name) := by rw [← hps, List.map_map]; rfl
    rw [hnm] at hR ⊢
    have hfd := hB.f.l
    refine dr [rs (dkR S).rd, dead, cl b3 (rdC M (.slice fa ps.length fc)) TR] 99 (.t 0 (.t 2 (.n 1 (.n 3 (.t 4 (.t 5 (.t 6 (.t 7 (.t 8 (.t 9 (.t 10 (.t 11 (.t 12 (.t 13 (.t 14 (.t 15 (.t 16 (.t 17 (.t 18 .nil))))))))))))))))))) tab_ok mixed_ok (by kernel_rfl) (.cons (.dead (.cons (.drop (.drop .nil))))) ?_
    refine co (fun w1 hs => names_any S w1 (hs.res (k := 0) rfl) (by omega)) (fun r2 hR2 => ?_)
    refine ⟨(.cons (.dead (.cons (.drop (.drop (.drop .nil)))))), ?_⟩
    refine cvs (v := .bool true) (fun w1 hs => by have := texts_any _ _ _ _ (by simp [sortT, List.length_mergeSort]; omega) (by simp; unfold maxLen; omega) w1 (Rd.own hs 5 rfl hR2) (Rd.own hs 3 rfl hR); rwa [he.f.names, decide_eq_true rfl] at this) ?_
    refine ⟨(.cons (.dead (.cons (.drop (.drop (.drop .nil)))))), ?_⟩
    repeat (first | refine ct rfl ?_ | refine cf rfl ?_)
    refine czs (v := .int .i64 M.steps) (fun w1 hs => by have := steps_any S w1 (hs.res (k := 0) rfl); rwa [he.st] at this) ?_
    repeat (first | refine ct rfl ?_ | refine cf rfl ?_)
    refine ld1 2 rfl (v := .int .i64 M.steps) rfl ?_
    have d1 : (((M.steps : Nat) : Int) == ((M.steps : Nat) : Int)) = true := beq_self_eq_true _
    have d2 : ((((M.steps : Nat) : Int) == ((M.steps : Nat) : Int)) == true) = true := by rw [d1]; rfl
    repeat (first | refine ct d2 ?_ | refine ct d1 ?_ | refine ct rfl ?_ | refine cf rfl ?_)
    refine czs (v := .bool M.gone) (fun w1 hs => by have := down_any S w1 (hs.res (k := 0) rfl); rwa [he.gn] at this) ?_
    repeat (first | refine ct d2 ?_ | refine ct d1 ?_ | refine ct rfl ?_ | refine cf rfl ?_)
    refine ld1 2 rfl (v := .bool M.gone) rfl ?_
    repeat (first | refine ct d2 ?_ | refine ct d1 ?_ | refine ct rfl ?_ | refine cf rfl ?_)
    exact rt (congrArg Value.bool (by simp))
end Go.Proofs.YteamnhpplclmfaaGreatDoor
end
section
namespace Go.Proofs.YteamnhpplclmfaaGreatDoor
open Go.RowKit Go.Sx
set_option linter.unusedVariables false
/-- a store and the reference's -/
structure Stn (T : StS) (x : Rv) : Prop where
  e : Eqv T.k.D x.M
  pl : T.S.pl = x.S.pl
  su : T.S.sure = x.S.sure
  la : T.S.last = x.S.last
  st : T.S.stuck = x.S.stuck
set_option maxRecDepth 100000 in
set_option maxHeartbeats 4000000 in
theorem stand_st (T : StS) (hT : StOk T) (x : Rv) {rr0 : Nat → Prop} {B0 : World} (hE : Stn T x) (hok : RvOk rr0 B0 x) {q k : Nat} (hB : Bd q k T.k.D) (hq : q ≤ 16777216) (hk : k ≤ 900000) (hln : T.S.pl.length ≤ 2199023255552) (hmx : ∀ p ∈ T.S.pl, p.length ≤ 1000000) (w : World) (h : (stR T).p w)
    (hm : (mP x.rr x.fa x.ps).p w) (hr : Rd w (sv x.r x.S.pl.length) x.vs) (hp : (psR x.rp x.vs x.S.pl).p w) :
    Calls Tryz.prog 37 ([ptr T.bs, ptr T.k.bd, .agg (rvS x)] : List Value).toArray w fun e w' => e = .returned (.bool true) ∧ Below w.heap.size w w' := by
  have hxx : ∀ z : Int, (z != z) = false := fun z => bne_self_eq_false z
  have hyy : ∀ z : Int, ((z != z) == false) = true := fun z => by rw [hxx]; rfl
  have hzz : ∀ z : Int, ((z == z) == true) = true := fun z => by rw [beq_self_eq_true]; rfl
  obtain ⟨va, vc, hva⟩ := sv_sl hT.row
  obtain ⟨xa, xc, hxa⟩ := sv_sl hok.row
  have hpls := hok.pls
  rw [hxa] at hr
  refine enterV tab_ok Tryz.func37 rfl Tryz.ntmps37 rfl (St.reads (L := [rs (stR T).rd, rs (mP x.rr x.fa x.ps), rs (rdR (rowB0 w) (.slice xa x.S.pl.length xc) x.vs), rs (psR x.rp x.vs x.S.pl)]) (fun e he => by
    simp only [List.mem_cons, List.not_mem_nil, or_false] at he
    rcases he with rfl | rfl | rfl | rfl
    · exact ⟨(rsOk _ _).2 h, fun k hk => ((rsW _ _).1 hk).elim⟩
    · exact ⟨(rsOk _ _).2 hm, fun k hk => ((rsW _ _).1 hk).elim⟩
    · exact ⟨(rsOk _ _).2 ⟨lt_rdb hr, fun k hk => hk⟩, fun k hk => ((rsW _ _).1 hk).elim⟩
    · exact ⟨(rsOk _ _).2 hp, fun k hk => ((rsW _ _).1 hk).elim⟩)) ?_
  intro b5 b6
  refine dr [rs (stR T).rd, dead, dead, dead, cl b5 (rvS x) TRS, dead] 99 (.t 0 (.t 1 (.t 2 (.t 3 (.t 4 (.t 5 (.t 6 (.t 7 (.t 8 (.t 9 (.t 10 (.t 11 (.t 12 (.t 13 (.t 14 (.t 15 (.t 16 (.t 17 (.t 18 (.t 19 (.t 20 (.t 21 (.t 22 (.t 23 (.t 24 (.t 25 (.t 26 (.t 27 .nil)))))))))))))))))))))))))))) tab_ok mixed_ok (by kernel_rfl) (.cons (.dead (.dead (.dead (.cons (.dead .nil)))))) ?_
  refine czs (v := .int .i64 (x.S.pl.length : Nat)) (fun w1 hs => by have := stR_cl (show (stR T).p w1 from hs.res (k := 0) (r := (stR T).rd) rfl); rw [hva] at this; have h9 := len_any this; rwa [hE.pl] at h9) ?_
  refine ld1 4 rfl (v := sv x.r x.S.pl.length) rfl ?_
  rw [hxa]
  repeat (first | refine ct rfl ?_ | refine cf rfl ?_ | refine ct (hyy _) ?_ | refine cf (hxx _) ?_ | refine ct (hzz _) ?_ | refine ct (beq_self_eq_true _) ?_)
  refine czs (v := .int .i64 (x.S.sure : Nat)) (fun w1 hs => by have := sureS_any (stR_cl (show (stR T).p w1 from hs.res (k := 0) (r := (stR T).rd) rfl)); rwa [hE.su] at this) ?_
  repeat (first | refine ct rfl ?_ | refine cf rfl ?_ | refine ct (hyy _) ?_ | refine cf (hxx _) ?_ | refine ct (hzz _) ?_ | refine ct (beq_self_eq_true _) ?_)
  refine ld1 4 rfl (v := .int .i64 (x.S.sure : Nat)) rfl ?_
  repeat (first | refine ct rfl ?_ | refine cf rfl ?_ | refine ct (hyy _) ?_ | refine cf (hxx _) ?_ | refine ct (hzz _) ?_ | refine ct (beq_self_eq_true _) ?_)
  refine czs (v := .int .i64 (x.S.last : Nat)) (fun w1 hs => by have := last_any (stR_cl (show (stR T).p w1 from hs.res (k := 0) (r := (stR T).rd) rfl)); rwa [hE.la] at this) ?_
  repeat (first | refine ct rfl ?_ | refine cf rfl ?_ | refine ct (hyy _) ?_ | refine cf (hxx _) ?_ | refine ct (hzz _) ?_ | refine ct (beq_self_eq_true _) ?_)
  refine ld1 4 rfl (v := .int .i64 (x.S.last : Nat)) rfl ?_
  repeat (first | refine ct rfl ?_ | refine cf rfl ?_ | refine ct (hyy _) ?_ | refine cf (hxx _) ?_ | refine ct (hzz _) ?_ | refine ct (beq_self_eq_true _) ?_)
  refine czs (v := errV x.S.stuck) (fun w1 hs => by have := stuck_any (stR_cl (show (stR T).p w1 from hs.res (k := 0) (r := (stR T).rd) rfl)); rwa [hE.st] at this) ?_
  repeat (first | refine ct rfl ?_ | refine cf rfl ?_ | refine ct (hyy _) ?_ | refine cf (hxx _) ?_ | refine ct (hzz _) ?_ | refine ct (beq_self_eq_true _) ?_)
  refine cz (fun w1 => num_any x.S.stuck w1) ?_
  repeat (first | refine ct rfl ?_ | refine cf rfl ?_ | refine ct (hyy _) ?_ | refine cf (hxx _) ?_ | refine ct (hzz _) ?_ | refine ct (beq_self_eq_true _) ?_)
  refine ld1 4 rfl (v := .int .i64 (x.S.stuck : Nat)) rfl ?_
  repeat (first | refine ct rfl ?_ | refine cf rfl ?_ | refine ct (hyy _) ?_ | refine cf (hxx _) ?_ | refine ct (hzz _) ?_ | refine ct (beq_self_eq_true _) ?_)
  intro b7
  refine s1 6 rfl (by show 0 < 1; decide) ?_
  refine inl (C := ⟨Tryz.prog, tab, _, [], w, _⟩) tab_ok Tryz.func10 rfl Tryz.ntmps10 rfl ?_
  intro b1
  refine bk ?_
  have hpm : ∀ (i : Nat) (p : Bs), T.S.pl[i]? = some p → p.length ≤ 1000000 := fun i p hp => hmx p (List.mem_of_getElem? hp)
  refine rfiO (C := ⟨Tryz.prog, tab, 70, [], w, none⟩) (L0 := [rs (stR T).rd, rs (mP x.rr x.fa x.ps), rs (rdR (rowB0 w) (.slice xa x.S.pl.length xc) x.vs), rs (psR x.rp x.vs x.S.pl), cl b5 (rvS x) TRS, cl b6 #[.bool false] 4, cl b1 #[ptr T.bs] TPS]) (α := Unit) (β := Empty) tab_ok rfl rfl rfl
    (stall_itr b1 T hT hln (fun p hp => Nat.le_trans (hmx p hp) (by decide))) (fun i _ => i ≤ T.S.pl.length) (fun i _ => [cl b7 #[.int .i64 (i : Nat)] 3]) (fun y => y.elim) (fun y => y.elim) () (Nat.zero_le _) ?_
    (fun w' hs => ⟨⟨hs.nth (k := 6) rfl, hs.res (k := 0) (r := (stR T).rd) rfl⟩, ?_⟩) ?_ ?_ ?_ ?_
  · exact .cons _ (.cons _ (.cons _ (.cons _ (.cons _ (.cons _ (List.perm_append_comm (l₁ := [cl b1 #[ptr T.bs] TPS]) (l₂ := [cl b7 #[.int .i64 (0 : Nat)] 3])))))))
  · rintro z (hz | hz | hz) e he hw
    · exact hz.elim
    · obtain rfl := List.mem_singleton.1 he
      subst hz
      exact (pw_ne hs.apart (i := 7) (j := 6) rfl rfl (by decide) _).1 hw (by simp)
    · obtain rfl := List.mem_singleton.1 he
      exact (pw_ne hs.apart (i := 7) (j := 0) rfl rfl (by decide) _).1 hw ((rsA (stR T).rd z).2 (.inr ((rsA (stR T) z).1 hz)))
  · rintro i args q j ⟨p, r, _, rfl, _⟩; rfl
  · rintro lq j args q j' _ w' ready busy ⟨p, r, hpj, rfl, rfl, hR, rfl⟩ hj
    have hjl := (List.getElem?_eq_some_iff.1 hpj).1
    have g2 := hpm j p hpj
    have hpx : x.S.pl[j]? = some p := by rw [← hE.pl]; exact hpj
    have hxl : j < x.S.pl.length := (List.getElem?_eq_some_iff.1 hpx).1
    have hne : x.vs ≠ [] := fun e => by have := hpls.len; rw [e] at this; rw [← this] at hxl; simp at hxl
    obtain ⟨pb, po, rfl⟩ := hr.addr hne
    obtain ⟨pa, pc, hpv⟩ := hpls.at hpx
    refine ⟨rfl, ?_⟩
    refine ld1 7 rfl rfl ?_
    repeat (first | refine ct rfl ?_ | refine cf rfl ?_ | refine ct (hyy _) ?_ | refine cf (hxx _) ?_ | refine ct (hzz _) ?_ | refine ct (beq_self_eq_true _) ?_)
    refine ld1 4 rfl (v := sv x.r x.S.pl.length) rfl ?_
    rw [hxa]
    repeat (first | refine ct rfl ?_ | refine cf rfl ?_ | refine ct (hyy _) ?_ | refine cf (hxx _) ?_ | refine ct (hzz _) ?_ | refine ct (beq_self_eq_true _) ?_)
    refine ⟨by omega, by omega, ?_⟩
    repeat (first | refine ct rfl ?_ | refine cf rfl ?_ | refine ct (hyy _) ?_ | refine cf (hxx _) ?_ | refine ct (hzz _) ?_ | refine ct (beq_self_eq_true _) ?_)
    refine .mk (.slice pa p.length pc) (fun w2 hs => (St.resR hs (k := 2) (r := rdR (rowB0 w) (.slice (some ⟨pb, po, none⟩) x.S.pl.length xc) x.vs) rfl).1.rd.at hpv rfl) ?_
    repeat (first | refine ct rfl ?_ | refine cf rfl ?_ | refine ct (hyy _) ?_ | refine cf (hxx _) ?_ | refine ct (hzz _) ?_ | refine ct (beq_self_eq_true _) ?_)
    refine cvs (fun w2 hs => same_yes _ _ p w2 (Rd.own hs 8 rfl hR) ((St.resR hs (k := 3) (r := psR x.rp x.vs x.S.pl) rfl).1 j _ _ hpv hpx).rd) ?_
    repeat (first | refine ct rfl ?_ | refine cf rfl ?_ | refine ct (hyy _) ?_ | refine cf (hxx _) ?_ | refine ct (hzz _) ?_ | refine ct (beq_self_eq_true _) ?_)
    refine over_in 8 rfl hR g2 ?_
    refine ld1 7 rfl rfl ?_
    refine .as ((j + 1 : Nat) : Int) (by omega) (by simp only [mn]; omega) (by simp only [mx]; omega) ?_
    refine s1 7 rfl (by show 0 < 1; decide) ?_
    exact ⟨(), hjl, (.drop (.drop (.drop (.drop (.drop (.drop (.drop (.cons (.drop (.cons .nil)))))))))), fun e he b hb hnw => by
      obtain rfl := List.mem_singleton.1 he
      exact absurd (by simpa using hb) (by simpa using hnw)⟩
  · rintro j y b0 rfl hj
    refine ld1 7 rfl rfl ?_
    refine ld1 4 rfl (v := sv x.r x.S.pl.length) rfl ?_
    rw [hxa, hE.pl]
    repeat (first | refine ct rfl ?_ | refine cf rfl ?_ | refine ct (hyy _) ?_ | refine cf (hxx _) ?_ | refine ct (hzz _) ?_ | refine ct (beq_self_eq_true _) ?_)
    refine ldP 4 (d := rdC x.M (.slice x.fa x.ps.length x.fc)) rfl rfl rfl ?_
    repeat (first | refine ct rfl ?_ | refine cf rfl ?_ | refine ct (hyy _) ?_ | refine cf (hxx _) ?_ | refine ct (hzz _) ?_ | refine ct (beq_self_eq_true _) ?_)
    refine cvs (fun w1 hs => same_disk T.k x.M x.fa x.fc x.ps x.rr hE.e hB hq hk hok.fs hok.sh w1 (stR_dk (show (stR T).p w1 from hs.res (k := 0) (r := (stR T).rd) rfl)) (hs.res (k := 1) rfl)) ?_
    repeat (first | refine ct rfl ?_ | refine cf rfl ?_ | refine ct (hyy _) ?_ | refine cf (hxx _) ?_ | refine ct (hzz _) ?_ | refine ct (beq_self_eq_true _) ?_)
    refine s1 5 rfl (by show 0 < 1; decide) ?_
    refine .mk 8 rfl ?_
    refine ld1 5 rfl rfl ?_
    exact rt rfl
  · intro y; exact y.elim
end Go.Proofs.YteamnhpplclmfaaGreatDoor
end
section
namespace Go.Proofs.YteamnhpplclmfaaGreatDoor
open Go.RowKit Go.Sx
set_option linter.unusedVariables false
section
variable {C : Cx} {L : List Ent}
/-- a function of the reference's store is called: the store is new -/
theorem cRo (k : Nat) {g : FuncId} {vs : List Value} {D' : Dk} {S' : Sr} {code : Nat} {rr : Nat → Prop} {fa : Option Addr} {ps : List PF} {next : Value → List Ent → Prop} (hk : L[k]? = some (rs (mP rr fa ps)))
    (h : ∀ w, St C.M C.B w L → Calls C.P g vs.toArray w (RefO rr w D' S' code))
    (go : ∀ x : Rv, (∀ B, RvOk x.rr B x) → x.M = D' → (code = 0 → x.S = S') → next (.tuple #[.agg (rvS x), .int .i64 code]) (L ++ rvE x)) : CallP C g vs L next := by
  refine ⟨fun w hs => (h w hs).mono fun e w' ⟨x, hok, hM, hS, he, h1⟩ => ⟨_, _, he, ?_, go x (fun B => ⟨hok.fs, hok.sh, fun j hj => .inl hj, hok.row, hok.pls⟩) hM hS⟩⟩
  have hW : ∀ e ∈ rvE x, ∀ k, e.W k → w.heap.size ≤ k := fun e he k hk => by
    rcases h1.ownW e he k hk with h4 | ⟨_, h4, _⟩
    · exact h4
    · cases h4
  have h2 : St C.M C.B w' (L ++ [rs (mres (rvE x))]) := hs.push h1.below ((rsOk _ _).2 ⟨h1.ok, h1.apart⟩) (fun k hk => by
    obtain ⟨e, he, hk⟩ := (mresW _ _).1 hk
    exact hW e he k hk) (fun j hj => by
    obtain ⟨e, he, hj⟩ := (mresA _ _).1 hj
    by_cases hw : e.W j
    · exact .inl (hW e he j hw)
    simp only [List.mem_cons, List.not_mem_nil, or_false] at he
    rcases he with rfl | rfl | rfl
    · rcases (rsA _ _).1 hj with h3 | h3
      · exact h3.elim
      · rcases hok.rr j h3 with h4 | h4
        · exact .inr ⟨_, List.mem_of_getElem? hk, (rsA _ _).2 (.inr h4), by simp [mP]⟩
        · exact .inl h4
    · exact absurd hj fun hj => se_A (p := fun _ => False) j hj hw
    · exact absurd hj fun hj => bg_A (p := fun _ => False) j hj hw)
  have h3 : St C.M C.B w' (L ++ rvE x ++ []) := St.unpack (X := L) (Y := []) (by simpa using h2)
  simpa using h3
end
/-- what came in still reads while a disk turns -/
theorem rd_old {B w : World} {L : List Ent} (hs : St [] B w L) (k : Nat) {S : DkS} (hk : L[k]? = some (rs (dkR S))) {v : Value} {xs : List Value} (h : Rd B v xs) (w' : World) (hz : w.heap.size ≤ w'.heap.size) (hkeep : ∀ j, j < w.heap.size → ¬ InM [bl S.bd, bl S.bm] j → w'.heap[j]? = w.heap[j]?) : Rd w' v xs := by
  obtain ⟨a, c, e, hc⟩ := h
  refine ⟨a, c, e, fun hne => ?_⟩
  obtain ⟨b, o, h1, h2, h3⟩ := hc hne
  have hbw : b < w.heap.size := Nat.lt_of_lt_of_le h2 hs.size
  have hno : ¬ InM [bl S.bd, bl S.bm] b := fun hm => by
    have hw : (rs (dkR S)).W b := (rsW _ _).2 (by
      obtain ⟨p, hp, hq⟩ := hm
      simp only [List.mem_cons, List.not_mem_nil, or_false] at hp
      rcases hp with rfl | rfl
      · exact .inl hq
      · exact .inr hq)
    rcases hs.ownW _ (List.mem_of_getElem? hk) b hw with h4 | ⟨_, h4, _⟩
    · omega
    · cases h4
  have hb : w'.heap[b]? = B.heap[b]? := (hkeep b hbw hno).trans (hs.below.block b h2)
  refine ⟨b, o, h1, Nat.lt_of_lt_of_le hbw hz, fun j u hu => ?_⟩
  rw [← h3 j u hu]
  simp only [World.cell?, hb]
theorem append_calm {D : Dk} (h : Calm D) (n x : Bs) : Calm (appendD D n x).1 := by
  unfold appendD
  split
  · exact h
  · split
    · exact h
    · exact (act_calm h _).2.2.1
/-- a file that came in -/
structure Fi where
  name : Bs
  a : Option Addr
  c : Nat
  bs : Bs
  sure : Int
instance : Inhabited Fi := ⟨⟨[], none, 0, [], 0⟩⟩
def Fi.cs (q : Fi) : Array Value := #[VS q.name, .slice q.a q.bs.length q.c, .int .i64 q.sure]
/-- a file that lies at a place -/
structure FilAt (w : World) (a : Option Addr) (i : Nat) (q : Fi) : Prop where
  at' : ∃ b o, a = some ⟨b, o, none⟩ ∧ b < w.heap.size ∧ ∀ j u, q.cs[j]? = some u → w.cell? ⟨b, o + i * 3 + j, none⟩ = some u
  bs : Rd w (.slice q.a q.bs.length q.c) (Lib.byteCells q.bs)
  l1 : q.name.length ≤ maxLen
  l2 : q.bs.length ≤ maxLen
/-- files that came in -/
def Fils (w : World) (v : Value) (n : Nat) (O : Nat → Fi) : Prop := n ≤ maxLen ∧ ∃ a c, v = .slice a n c ∧ ∀ i, i < n → FilAt w a i (O i)
theorem recs_small : ∀ (n : Nat) (b : Bs), b.length ≤ n → ∀ p ∈ recsP b, p.length ≤ 65536 := by
  intro n
  induction n with
  | zero => intro b hb p hp; obtain rfl : b = [] := List.eq_nil_of_length_eq_zero (by omega); cases hp
  | succ n ih =>
    intro b hb p hp
    cases hf : firstP b with
    | none => rw [recs_none hf] at hp; cases hp
    | some q =>
      obtain ⟨h1, h2, _⟩ := first_len hf
      rw [recs_some hf] at hp
      rcases List.mem_cons.1 hp with rfl | hp
      · exact h2
      · exact ih _ (by rw [List.length_drop]; omega) p hp
theorem load_small {x : Ld} (h : ∀ p ∈ x.pl, p.length ≤ 65536) (last n : Nat) : ∀ p ∈ (loadD x last n).1.pl, p.length ≤ 65536 := by
  unfold loadD
  cases hf : findF (nameS n) x.D.files with
  | none => exact h
  | some f =>
    have hr : ∀ p ∈ x.pl ++ recsP f.bs, p.length ≤ 65536 := fun p hp => (List.mem_append.1 hp).elim (h p) (recs_small _ _ (Nat.le_refl _) p)
    dsimp only
    split
    · exact h
    · split
      · split
        · exact h
        · exact hr
      · exact hr
theorem loads_small (last : Nat) : ∀ (k n : Nat) (x : Ld), (∀ p ∈ x.pl, p.length ≤ 65536) → ∀ p ∈ (loadsD k x last n).1.pl, p.length ≤ 65536 := by
  intro k
  induction k with
  | zero => exact fun n x h => h
  | succ k ih =>
    intro n x h
    rw [loadsD_step]
    split
    · exact ih _ _ (load_small h last n)
    · exact load_small h last n
theorem loads_count {q k0 : Nat} (last : Nat) : ∀ (k n : Nat) (x : Ld), n + k = last + 1 → Bd q k0 x.D → 8 * (loadsD k x last n).1.pl.length ≤ 8 * x.pl.length + q * k := by
  intro k
  induction k with
  | zero => exact fun n x _ _ => Nat.le_add_right _ _
  | succ k ih =>
    intro n x hn h
    have h1 := load_bd h last n
    have h2 : q * (k + 1) = q * k + q := Nat.mul_succ q k
    rw [loadsD_step]
    split
    · by_cases hl : n < last
      · have := ih (n + 1) (loadD x last n).1 (by omega) (by rw [h1.2.1 hl]; exact h)
        omega
      · obtain rfl : k = 0 := by omega
        have h3 : loadsD 0 (loadD x last n).1 last (n + 1) = ((loadD x last n).1, 0) := rfl
        rw [h3]
        show 8 * (loadD x last n).1.pl.length ≤ _
        omega
    · omega
theorem open_small (D : Dk) (size : Nat) : ∀ p ∈ (openP D size).S.pl, p.length ≤ 65536 := by
  show ∀ p ∈ (ldOf D).1.pl, p.length ≤ 65536
  unfold ldOf ldAll
  split
  · exact loads_small _ _ _ _ (by simp)
  · intro p hp; cases hp
theorem open_count {q k : Nat} {D : Dk} (h : Bd q k D) (hq : q ≤ 16777216) (size : Nat) : (openP D size).S.pl.length ≤ 2199023255552 := by
  show (ldOf D).1.pl.length ≤ 2199023255552
  unfold ldOf ldAll
  split
  · have h1 := loads_count (mfL (dr1 D)) (mfL (dr1 D)) 1 ⟨(dr1 D).1, [], 0⟩ (by omega) h.dr1
    have h2 : q * mfL (dr1 D) ≤ 16777216 * 1048576 := Nat.mul_le_mul hq (mfL_le _)
    simp only [List.length_nil] at h1
    omega
  · exact Nat.zero_le _
end Go.Proofs.YteamnhpplclmfaaGreatDoor
end
section
namespace Go.Proofs.YteamnhpplclmfaaGreatDoor
open Go.RowKit Go.Sx
set_option linter.unusedVariables false
theorem need_le {size n : Nat} (ps : List Bs) (h : ∀ p ∈ ps, p.length ≤ n) : ∀ len, (needF size (0, len, false) ps).1 ≤ (8 + n) * ps.length := by
  induction ps with
  | nil => intro len; exact Nat.zero_le _
  | cons p ps ih =>
    intro len
    rw [need_step, (need_lin ps _ _ _).1, List.length_cons, Nat.mul_succ]
    have h1 := h p (by simp)
    have h2 := ih (fun q hq => h q (by simp [hq])) ((if begP size len (8 + p.length) = true then 0 else len) + (8 + p.length))
    omega
theorem puts_len (size n : Nat) (ps : List Bs) (h : ∀ p ∈ ps, p.length ≤ n) : ∀ x : Pt, (putsD size x ps).1.last ≤ x.last + ps.length ∧ (putsD size x ps).1.length ≤ x.length + (8 + n) * ps.length := by
  induction ps with
  | nil => intro x; exact ⟨Nat.le_refl _, Nat.le_refl _⟩
  | cons p ps ih =>
    intro x
    have h1 := go_last size x p
    have h2 := h p (by simp)
    have h3 := ih (fun q hq => h q (by simp [hq])) (putD size x p).1
    rw [putsD, List.length_cons, Nat.mul_succ]
    split
    · exact ⟨by have := h1.2.2.1; omega, by have := h1.2.2.2; omega⟩
    · exact ⟨by have := h1.2.2.1; omega, by have := h1.2.2.2; omega⟩
/-- a store that holds the first payloads -/
structure An (ps : List Bs) (i : Nat) (S : Sr) (D : Dk) : Prop where
  st : S.stuck = 0
  pl : S.pl = ps.take i
  al : ∃ Ss P q, Al ⟨D, S.last, S.length⟩ Ss P q ∧ Ss.flatten ++ P = S.pl ∧ Ss.length ≤ i
  calm : Calm D
  qt : D.quota = 1048576
  us : usedD D.files ≤ 400 * i
  la : S.last ≤ i + 1
  le : S.length ≤ 308 * i
theorem Gd.used0 {F : List Fe} (h : Gd [] [] 0 F) (hn : findF newB F = none) : usedD F = 0 := by
  have hz : ∀ f ∈ F, f.bs.length = 0 := fun f hf => by
    have hfs := find_some h.nd hf
    rcases h.oth f hf with e | e | ⟨i, h1, h2, e⟩
    · have hm : findF manB F = none := h.man
      rw [← e, hfs] at hm
      cases hm
    · rw [← e, hfs] at hn; cases hn
    · obtain rfl : i = 1 := by simp at h2; omega
      rw [e] at hfs
      rcases h.las with ⟨_, e2⟩ | ⟨g, e1, e2, _⟩
      · rw [show nameS (([] : List (List Bs)).length + 1) = nameS 1 from rfl, hfs] at e2; cases e2
      · rw [show nameS (([] : List (List Bs)).length + 1) = nameS 1 from rfl, hfs] at e1
        obtain rfl := Option.some.inj e1
        rw [e2]; rfl
  clear hn h
  induction F with
  | nil => rfl
  | cons f F ih => rw [used_cons, hz f (by simp), ih fun g hg => hz g (by simp [hg])]
theorem An.zero (ps : List Bs) (size : Nat) : An ps 0 (openP ⟨0, 0, false, false, 1048576, []⟩ size).S (openP ⟨0, 0, false, false, 1048576, []⟩ size).D := by
  obtain ⟨z1, z2, z3, z4, z5, z6⟩ := open_zero 1048576 size
  have hf := z3.used0 z5
  rw [z2]
  refine ⟨rfl, rfl, ⟨[], [], 0, ⟨z3, z5, rfl, rfl⟩, rfl, Nat.le_refl _⟩, z4, z6, by rw [hf]; exact Nat.zero_le _, Nat.le_refl _, Nat.zero_le _⟩
theorem An.step {ps : List Bs} {i k : Nat} {S : Sr} {D : Dk} (h : An ps i S D) (hk1 : 1 ≤ k) (hk4 : k ≤ 100) (hik : i + k ≤ ps.length) (hi : i ≤ 100) (hp : ∀ p ∈ ps, p.length ≤ 300) :
    (appendS ⟨S, D⟩ ((ps.drop i).take k)).2 = 0 ∧ An ps (i + k) (appendS ⟨S, D⟩ ((ps.drop i).take k)).1.S (appendS ⟨S, D⟩ ((ps.drop i).take k)).1.D := by
  obtain ⟨Ss, P, q, ha, ht, hs⟩ := h.al
  have hql : ((ps.drop i).take k).length = k := by rw [List.length_take, List.length_drop]; omega
  have hqp : ∀ p ∈ (ps.drop i).take k, p.length ≤ 300 := fun p hm => hp p (List.mem_of_mem_drop (List.mem_of_mem_take hm))
  have htk : ps.take (i + k) = ps.take i ++ (ps.drop i).take k := List.take_add ..
  generalize (ps.drop i).take k = qs at hql hqp htk
  have hqp6 : ∀ p ∈ qs, p.length ≤ 65536 := fun p hm => by have := hqp p hm; omega
  have hbig : (qs.any fun p => decide (65536 < p.length)) = false := by
    rw [List.any_eq_false]; intro p hm; have := hqp p hm; simp; omega
  have hN := need_le (size := S.size) (n := 300) qs hqp S.length
  rw [hql] at hN
  have hus := h.us
  have hqt := h.qt
  have hml := man_le ha.g
  dsimp only at hml
  have hfull : ¬ (D.quota : Int) - usedD D.files < needP S qs := by
    unfold needP; split <;> omega
  obtain ⟨a1, a2, a3, a4⟩ := puts_ok (size := S.size) qs hqp6 ha (by omega) h.calm (need_room hfull)
  obtain ⟨S2, P2, q2, m, g1, c1, l1, t1, al1⟩ := puts_plain (size := S.size) qs hqp6 ha (by omega)
  obtain ⟨b1, b2⟩ := al1 a1
  have hl := puts_len S.size 300 qs hqp ⟨D, S.last, S.length⟩
  rw [hql] at hl l1
  dsimp only at a4 hl a3
  unfold appendS
  rw [if_neg (by simpa using h.st), if_neg (by rw [hbig]; decide), if_neg hfull, if_neg (by rw [h.calm.1]; decide), if_pos a1]
  refine ⟨rfl, ⟨h.st, ?_, ⟨S2, P2, q2, b1, by show _ = S.pl ++ qs; rw [b2, ht], by omega⟩, a2, by show (putsD S.size ⟨D, S.last, S.length⟩ qs).1.D.quota = _; rw [a3]; exact hqt, ?_, by have := h.la; have := hl.1; show (putsD S.size ⟨D, S.last, S.length⟩ qs).1.last ≤ _; omega, by have := h.le; have := hl.2; show (putsD S.size ⟨D, S.last, S.length⟩ qs).1.length ≤ _; omega⟩⟩
  · show S.pl ++ qs = _
    rw [h.pl, htk]
  · show usedD (putsD S.size ⟨D, S.last, S.length⟩ qs).1.D.files ≤ _
    omega
theorem An.sync {ps : List Bs} {i : Nat} {S : Sr} {D : Dk} (h : An ps i S D) : (syncS ⟨S, D⟩).2 = 0 ∧ ∃ Ss P, Gd Ss P P.length (syncS ⟨S, D⟩).1.D.files ∧ Ss.flatten ++ P = S.pl := by
  obtain ⟨Ss, P, q, ha, ht, hs⟩ := h.al
  have hla : S.last = Ss.length + 1 := ha.la
  unfold syncS
  rw [if_neg (by simpa using h.st), if_neg (by rw [h.calm.1]; decide)]
  dsimp only
  rw [hla]
  cases hh : hasD D (nameS (Ss.length + 1)) with
  | false =>
    rw [if_neg (by decide)]
    refine ⟨rfl, Ss, P, ?_, ht⟩
    rcases ha.g.las with ⟨e, _⟩ | ⟨f, e, _⟩
    · subst e
      have hq := ha.g.ql
      obtain rfl : q = 0 := by simpa using hq
      exact ha.g
    · unfold hasD at hh; dsimp only at e; rw [e] at hh; cases hh
  | true =>
    rw [if_pos rfl]
    obtain ⟨f, hf⟩ := has_read hh
    have e := sync_eq hf
    obtain ⟨a1, a2, a3, a4⟩ := act_calm h.calm (setF ⟨nameS (Ss.length + 1), f.bs, f.bs.length⟩ D.files)
    rw [← e] at a1 a2 a3 a4
    rw [if_pos a1]
    refine ⟨rfl, Ss, P, ?_, ht⟩
    dsimp only
    rw [a2]
    exact ha.g.synced hf
end Go.Proofs.YteamnhpplclmfaaGreatDoor
end
section
namespace Go.Proofs.YteamnhpplclmfaaGreatDoor
open Go.RowKit Go.Sx
set_option linter.unusedVariables false
theorem _root_.Go.Sx.Rd.midV {w : World} {b o n c i m : Nat} {xs : List Value} (h : Rd w (.slice (some ⟨b, o, none⟩) n c) xs) (him : i + m ≤ xs.length) (c' : Nat) : Rd w (.slice (some ⟨b, o + i, none⟩) m c') ((xs.drop i).take m) := by
  obtain ⟨a', c1, e, hc⟩ := h
  injection e with e1 e2 e3
  subst e1
  have hlen : ((xs.drop i).take m).length = m := by rw [List.length_take, List.length_drop]; omega
  refine ⟨some ⟨b, o + i, none⟩, c', by rw [hlen], fun hne => ?_⟩
  obtain ⟨b', o', h1, h2, h3⟩ := hc (fun e => hne (by rw [e]; simp))
  injection h1 with h1
  injection h1 with h4 h5
  subst h4 h5
  refine ⟨b, o + i, rfl, h2, fun j u hu => ?_⟩
  rw [Nat.add_assoc]
  refine h3 (i + j) u ?_
  rw [List.getElem?_take] at hu
  split at hu
  · rw [List.getElem?_drop] at hu; exact hu
  · cases hu
/-- s[i:j], of cells -/
theorem slMidV {e : Nat} {aa : Option Addr} {n cap i j : Nat} (ha : ∀ a, aa = some a → a.spot = none) (hij : i < j) (hjc : j ≤ cap) (hne : aa ≠ none) {next : Value → Prop} {fb : Prop}
    (go : ∀ a', (∀ (w : World) (xs : List Value), Rd w (.slice aa n cap) xs → j ≤ xs.length → Rd w (.slice a' (j - i) (cap - i)) ((xs.drop i).take (j - i))) → next (.slice a' (j - i) (cap - i))) :
    SliP (.sl e 1) (.slice aa n cap) (some (i : Int)) (some (j : Int)) none next fb := by
  refine ⟨?_⟩
  cases aa with
  | none => exact absurd rfl hne
  | some a =>
    obtain ⟨b, o, sp⟩ := a
    obtain rfl : sp = none := ha _ rfl
    refine .mk i j cap rfl rfl rfl (by omega) hjc (Nat.le_refl _) (by simp) ?_
    refine .on (by omega) ?_
    rw [nad_eq, nmu_eq, Nat.mul_one]
    exact go _ fun w xs h hl => h.midV (by omega) _
theorem St.dupL {M : Bks} {B w : World} {L : List Ent} (h : St M B w L) (k : Nat) (hk : L[k]? = some (rs laidR)) : St M B w (rs laidR :: L) := by
  have h1 : St M B w (L ++ [rs laidR]) := h.push (Below.refl _ _) (h.ok _ (List.mem_of_getElem? hk)) (fun b hb => absurd hb fun hb => ((rsW _ _).1 hb).elim) (fun b hb => .inr ⟨_, List.mem_of_getElem? hk, hb, fun hw => ((rsW _ _).1 hw).elim⟩)
  exact h1.perm (List.perm_append_comm (l₁ := [rs laidR]) (l₂ := L))
/-- a store is let go: its disk stays -/
theorem St.unst {M : Bks} {B w : World} {T : StS} {R : List Ent} (h : St M B w (rs (stR T) :: R)) : St M B w (rs (dkR T.k) :: rs laidR :: R) := by
  have h1 : St M B w ([] ++ stEs T ++ R) := St.unpack (X := []) (Y := R) h
  have h2 : Sub (rs (dkR T.k) :: rs laidR :: R) ([] ++ stEs T ++ R) := .drop (.cons (.cons (.drop (.drop (Sub.refl R)))))
  exact h1.sub h2
/-- a disk is opened: the call, the known things named otherwise -/
theorem cOpen2 {N : Nat} {M : Bks} {B : World} {F : Option Nat} {L : List Ent} {K : DkS} {size : Nat} (rest : List Ent) {next : Value → List Ent → Prop} (hL : ∀ w, St M B w L → St M B w (rs (dkR K) :: rs laidR :: rest)) (h1 : 64 ≤ size) (h2 : size ≤ 1048576) (hgone : K.D.gone = false) {q k : Nat} (hB : Bd q k K.D) (hk : k ≤ 299999) (hq : q ≤ 16777216)
    (go0 : (openP K.D size).code = 0 → ∀ T : StS, T.S = (openP K.D size).S → T.k.D = (openP K.D size).D → T.k.bd = K.bd → StOk T → next (.tuple #[ptr T.bs, .nilIface]) (rs (stR T) :: rest))
    (go1 : (openP K.D size).code ≠ 0 → ∀ K' : DkS, K'.D = (openP K.D size).D → K'.bd = K.bd → next (.tuple #[.pointer none, errV (openP K.D size).code]) (rs (dkR K') :: rs laidR :: rest)) :
    CallP ⟨Tryz.prog, tab, N, M, B, F⟩ 19 [ptr K.bd, .int .i64 size] L next :=
  ⟨fun w hs => (cOpen (N := N) (F := F) (M := M) (B := B) (L := rs (dkR K) :: rs laidR :: rest) rest (.refl _) h1 h2 hgone hB hk hq go0 go1).go w (hL w hs)⟩
theorem PayIn.sub {w : World} {a a' : Option Addr} {c c' : Nat} {vs : List Value} {ps : List Bs} (h : PayIn w a c vs ps) (i m : Nat) (him : i + m ≤ ps.length) (hc : m ≤ c') (hr : Rd w (.slice a' m c') ((vs.drop i).take m)) : PayIn w a' c' ((vs.drop i).take m) ((ps.drop i).take m) := by
  have hl : ((ps.drop i).take m).length = m := by rw [List.length_take, List.length_drop]; omega
  have hget : ∀ {α : Type} (l : List α) (j : Nat) (u : α), ((l.drop i).take m)[j]? = some u → l[i + j]? = some u := fun l j u hu => by
    rw [List.getElem?_take] at hu
    split at hu
    · rw [List.getElem?_drop] at hu; exact hu
    · cases hu
  refine ⟨by rw [hl]; exact hr, ⟨by rw [hl, List.length_take, List.length_drop, h.pls.len]; omega, fun j v p hv hp => h.pls.sh (i + j) v p (hget _ _ _ hv) (hget _ _ _ hp)⟩, fun j v p hv hp => h.el (i + j) v p (hget _ _ _ hv) (hget _ _ _ hp), fun p hp => h.mx p (List.mem_of_mem_drop (List.mem_of_mem_take hp)), by rw [hl]; exact hc⟩
/-- the power goes and comes, where a store holds the disk -/
theorem cCrash {C : Cx} {L : List Ent} (hP : C.P = Tryz.prog) (k : Nat) {T : StS} {keep : Int} (hkeep : -9223372036854775808 ≤ keep ∧ keep ≤ 9223372036854775807) {next : Value → List Ent → Prop} (hk : L[k]? = some (rs (stR T))) (go : ∀ K' : DkS, K'.D = crashD T.k.D keep → K'.bd = T.k.bd → next (.tuple #[]) (L.set k (rs (stR { T with k := K' })))) :
    CallP C 34 [ptr T.k.bd, .int .i64 keep] L next := by
  refine cTk (α := DkS) (Φ := fun K' => K'.D = crashD T.k.D keep) (v := fun _ => .tuple #[]) (K' := id) k hk (fun w h => ?_) (fun K' h1 h2 => go K' h1 h2)
  rw [hP]
  exact (crash_any T.k keep hkeep w h).mono fun e w' ⟨S', ⟨h1, h2, h3⟩, h4, h5⟩ => ⟨S', h1, h2, h4, h5⟩
end Go.Proofs.YteamnhpplclmfaaGreatDoor
end
section
namespace Go.Proofs.YteamnhpplclmfaaGreatDoor
open Go.RowKit Go.Sx
set_option linter.unusedVariables false
theorem rise_nil : Rise [] := .nil
theorem errV2 : errV 2 = ErrN 2 := errVs 2 (by decide)
set_option maxRecDepth 100000 in
set_option maxHeartbeats 4000000 in
theorem opens_end {w : World} (z : Int) (hz : -9223372036854775808 ≤ z ∧ z ≤ 9223372036854775807) {S : DkS} {F : Fl} {b9 : Nat} (he : Eqv S.D F.M) (hB : Bd 1048576 12 S.D) (hg : S.D.gone = false) (hps : F.ps.map (·.2) = F.M.files) (hsh : PsOk F.fa F.ps) :
    CodeP ⟨Tryz.prog, tab, 114, [], w, none⟩ (dropS 8 ((Tryz.f8.body).getD .skip)) (retK ⟨Tryz.prog, tab, 114, [], w, none⟩ Tryz.f8 (fun v w' => v = .bool true ∧ Below w.heap.size w w')) ⟨[(0, .int .i64 z), (7, ptr S.bd), (9, ptr b9)], [rs laidR, rs (dkR S), cl b9 (rdC F.M (.slice F.fa F.ps.length F.fc)) TR, rs (mP F.rr F.fa F.ps)], []⟩ := by
  have hxx : ∀ z : Int, (z != z) = false := fun z => bne_self_eq_false z
  have hyy : ∀ z : Int, ((z != z) == false) = true := fun z => by rw [hxx]; rfl
  have hzz : ∀ z : Int, ((z == z) == true) = true := fun z => by rw [beq_self_eq_true]; rfl
  obtain ⟨M, fa, fc, ps, rr⟩ := F
  dsimp only at he hps hsh ⊢
  have hrfs : ∀ {u : World}, (mP rr fa ps).p u → RFs rr u (.slice fa ps.length fc) M.files := fun h => by rw [← hps]; exact mP_rfs h
  have hRb : Rb 1048576 12 M := ⟨S.D, he, hB⟩
  refine cx_ok tab_ok _ _ _ ?_
  by_cases hr : z < 64 ∨ 1048576 < z
  · refine cvs (fun w1 hs => open_range S z hr hz w1) ?_
    refine ldN 2 rfl rfl ?_
    refine cvs (fun w1 hs => ropen_range M fa ps.length fc z hr w1) ?_
    intro b16
    refine sN 4 rfl rfl rfl ?_ (by kernel_rfl)
    refine cv (fun w1 => by rw [← errV2]; exact num_any 2 w1) ?_
    repeat (first | refine ct rfl ?_ | refine cf rfl ?_ | refine ct (hyy _) ?_ | refine cf (hxx _) ?_ | refine ct (hzz _) ?_ | refine ct (beq_self_eq_true _) ?_)
    refine cv (fun w1 => by rw [← errV2]; exact num_any 2 w1) ?_
    repeat (first | refine ct rfl ?_ | refine cf rfl ?_ | refine ct (hyy _) ?_ | refine cf (hxx _) ?_ | refine ct (hzz _) ?_ | refine ct (beq_self_eq_true _) ?_)
    refine ldP 4 (d := rdC M (.slice fa ps.length fc)) rfl rfl rfl ?_
    repeat (first | refine ct rfl ?_ | refine cf rfl ?_ | refine ct (hyy _) ?_ | refine cf (hxx _) ?_ | refine ct (hzz _) ?_ | refine ct (beq_self_eq_true _) ?_)
    refine cvs (fun w1 hs => same_disk S M fa fc ps rr he hB (by decide) (by decide) hps hsh w1 (hs.res (k := 1) rfl) (hs.res (k := 3) rfl)) ?_
    repeat (first | refine ct rfl ?_ | refine cf rfl ?_ | refine ct (hyy _) ?_ | refine cf (hxx _) ?_ | refine ct (hzz _) ?_ | refine ct (beq_self_eq_true _) ?_)
    exact rt rfl
  obtain ⟨size, rfl⟩ : ∃ n : Nat, z = n := ⟨z.toNat, by omega⟩
  obtain ⟨e1, e2, e3⟩ := eqv_open he hg size
  have hBo := hB.open size
  have hgM : M.gone = false := by rw [← he.gn]; exact hg
  have hsm := open_small S.D size
  have hct := open_count hB (by decide) size
  refine cOpen2 (K := S) (size := size) [cl b9 (rdC M (.slice fa ps.length fc)) TR, rs (mP rr fa ps)] (fun w1 hs => hs.perm (.swap _ _ _)) (by omega) (by omega) hg hB (by decide) (by decide) (fun h0 T hS hD hbd hok => ?_) (fun h0 K' hD hbd => ?_)
  · have hc0 : (ropenP M size).code = 0 := by rw [← e1]; exact h0
    have e3' := e3 h0
    refine ldN 1 rfl rfl ?_
    refine cRo (D' := (ropenP M size).D) (S' := (ropenP M size).S) (code := (ropenP M size).code) 2 rfl (fun w1 hs => ropen_any M _ rr size (by omega) (by omega) hgM hRb (by decide) (by decide) w1 (hrfs (hs.res (k := 2) rfl))) (fun x hokx hM hSx => ?_)
    rw [hc0] at hSx ⊢
    have hSx := hSx rfl
    intro b16
    refine sN 6 rfl rfl (rvS_one x) ?_ (by kernel_rfl)
    refine cv (fun w1 => num_any 0 w1) ?_
    repeat (first | refine ct rfl ?_ | refine cf rfl ?_ | refine ct (hyy _) ?_ | refine cf (hxx _) ?_ | refine ct (hzz _) ?_ | refine ct (beq_self_eq_true _) ?_)
    refine ldN 6 rfl rfl ?_
    have hTS : T.S = x.S := by rw [hS, e3', hSx]
    rw [← hbd]
    refine cvs (fun w1 hs => stand_st T hok x (rr0 := x.rr) (B0 := w1) ⟨by rw [hD, hM]; exact e2, by rw [hTS], by rw [hTS], by rw [hTS], by rw [hTS]⟩ (hokx w1) (by rw [hD]; exact hBo) (by decide) (by decide) (by rw [hS]; exact hct) (fun p hp => by rw [hS] at hp; have := hsm p hp; omega) w1 (hs.res (k := 0) rfl) (hs.res (k := 3) rfl) (Rd.own hs 4 rfl (hokx w1).row) (hs.res (k := 5) (r := bgR x.rp x.vs x.S.pl) rfl)) ?_
    exact rt rfl
  · have hc0 : (ropenP M size).code ≠ 0 := by rw [← e1]; exact h0
    rw [e1]
    refine ldN 2 rfl rfl ?_
    refine cRo (D' := (ropenP M size).D) (S' := (ropenP M size).S) (code := (ropenP M size).code) 3 rfl (fun w1 hs => ropen_any M _ rr size (by omega) (by omega) hgM hRb (by decide) (by decide) w1 (hrfs (hs.res (k := 3) rfl))) (fun x hokx hM hSx => ?_)
    obtain ⟨cd, hcd⟩ : ∃ cd, cd = (ropenP M size).code := ⟨_, rfl⟩
    rw [← hcd] at hc0 ⊢
    intro b16
    refine sN 7 rfl rfl (rvS_one x) ?_ (by kernel_rfl)
    have q1 : (((cd : Nat) : Int) != 0) = true := by rw [bne_iff_ne]; omega
    refine cv (fun w1 => num_any cd w1) ?_
    repeat (first | refine ct q1 ?_ | refine ct rfl ?_ | refine cf rfl ?_ | refine ct (hyy _) ?_ | refine cf (hxx _) ?_)
    refine cv (fun w1 => num_any cd w1) ?_
    repeat (first | refine ct rfl ?_ | refine cf rfl ?_ | refine ct (hyy _) ?_ | refine cf (hxx _) ?_ | refine ct (hzz _) ?_ | refine ct (beq_self_eq_true _) ?_)
    refine ldP 7 (d := rdC x.M (.slice x.fa x.ps.length x.fc)) rfl rfl rfl ?_
    repeat (first | refine ct rfl ?_ | refine cf rfl ?_ | refine ct (hyy _) ?_ | refine cf (hxx _) ?_ | refine ct (hzz _) ?_ | refine ct (beq_self_eq_true _) ?_)
    rw [← hbd]
    refine cvs (fun w1 hs => same_disk K' x.M x.fa x.fc x.ps x.rr (by rw [hD, hM]; exact e2) (by rw [hD]; exact hBo) (by decide) (by decide) (hokx w1).fs (hokx w1).sh w1 (hs.res (k := 0) rfl) (hs.res (k := 4) rfl)) ?_
    repeat (first | refine ct rfl ?_ | refine cf rfl ?_ | refine ct (hyy _) ?_ | refine cf (hxx _) ?_ | refine ct (hzz _) ?_ | refine ct (beq_self_eq_true _) ?_)
    exact rt rfl
structure OpOk (n : Nat) (x1 : Nat) (y : Nat × DkS × Fl) : Prop where
  i : y.1 ≤ n
  e : Eqv y.2.1.D y.2.2.M
  b : y.2.1.bd = x1
  d : Bd 1048576 y.1 y.2.1.D
  c : Calm y.2.1.D
  f : y.2.2.ps.map (·.2) = y.2.2.M.files
  s : PsOk y.2.2.fa y.2.2.ps
set_option maxRecDepth 100000 in
set_option maxHeartbeats 4000000 in
theorem law_opens (z : Int) (hz : -9223372036854775808 ≤ z ∧ z ≤ 9223372036854775807) (v : Value) (n : Nat) (O : Nat → Fi) (arm : Int) (harm : -9223372036854775808 ≤ arm ∧ arm ≤ 9223372036854775807) (w : World) (hS : Fils w v n O) (hw : Laid w) :
    Calls Tryz.prog 8 ([.int .i64 z, v, .int .i64 arm] : List Value).toArray w fun e w' => e = .returned (.bool true) ∧ Below w.heap.size w w' := by
  have hxx : ∀ z : Int, (z != z) = false := fun z => bne_self_eq_false z
  obtain ⟨hn, a, c, rfl, hS⟩ := hS
  refine (enterP tab_ok Tryz.func8 rfl Tryz.ntmps8 rfl (St.laid hw) (R := fun v w' => v = .bool true ∧ Below w.heap.size w w') ?_).mono (fun e w' ⟨u, he, h1, h2⟩ => ⟨by rw [he, h1], h2⟩)
  refine cutS tab_ok (fun y : DkS × Fl × Nat => Eqv y.1.D y.2.1.M ∧ Bd 1048576 12 y.1.D ∧ y.1.D.gone = false ∧ y.2.1.ps.map (·.2) = y.2.1.M.files ∧ PsOk y.2.1.fa y.2.1.ps) (fun y => ⟨[(0, .int .i64 z), (7, ptr y.1.bd), (9, ptr y.2.2)], [rs laidR, rs (dkR y.1), cl y.2.2 (rdC y.2.1.M (.slice y.2.1.fa y.2.1.ps.length y.2.1.fc)) TR, rs (mP y.2.1.rr y.2.1.fa y.2.1.ps)], []⟩) 8 ?_ (fun y ⟨y1, y2, y3, y4, y5⟩ => opens_end z hz y1 y2 y3 y4 y5)
  refine cvs (fun w1 hs => alive_any w1 (hs.res (k := 0) rfl)) ?_
  refine cf rfl ?_
  by_cases h12 : 12 < n
  · refine ct (decide_eq_true (by omega)) ?_
    exact rt rfl
  refine cf (decide_eq_false (by omega)) ?_
  refine cM (α := Nat × Nat) (Φ := fun _ => True) (v := fun x => .tuple #[ptr x.1, .nilIface]) (r' := fun x => dkR (dk0 1048576 x.1 x.2)) (fun w1 hs => (new_any 1048576 (by decide) w1).mono fun e w' ⟨x, h1, h2, h3, h4, h5, h6⟩ => ⟨x, h1, h2, h3, h4, h5, fun k hk => (h6 k hk).elim⟩) (fun x _ => ?_)
  refine cf rfl ?_
  refine bu (c := rdC ⟨0, 0, false, false, 1048576, []⟩ (.slice none 0 0)) (by kernel_rfl) ?_
  intro b9
  refine sN 2 rfl rfl (rdC_one _ rfl) ?_ (by kernel_rfl)
  refine LoopP.from (L' := [rs laidR, rs (dkR (dk0 1048576 x.1 x.2)), cl b9 (rdC ⟨0, 0, false, false, 1048576, []⟩ (.slice none 0 0)) TR, rs (mP (fun _ => False) none [])]) (fun w1 hs => hs.push (e := rs (mP (fun _ => False) none [])) (Below.refl _ _) ((rsOk _ _).2 ⟨⟨fun p hp => (by cases hp), fun h => absurd rfl h⟩, fun k hk => hk.elim⟩) (fun k hk => by simp [mP] at hk) (fun k hk => by simp [mP] at hk)) ?_
  refine lp tab_ok (OpOk n x.1) (fun y => ⟨[(0, .int .i64 z), (2, .int .i64 arm), (7, ptr x.1), (9, ptr b9), (30, .slice a n c), (31, .int .i64 n), (32, .int .i64 y.1)], [rs laidR, rs (dkR y.2.1), cl b9 (rdC y.2.2.M (.slice y.2.2.fa y.2.2.ps.length y.2.2.fc)) TR, rs (mP y.2.2.rr y.2.2.fa y.2.2.ps)], []⟩) (fun y => n - y.1)
    (0, dk0 1048576 x.1 x.2, ⟨⟨0, 0, false, false, 1048576, []⟩, none, 0, [], fun _ => False⟩) ⟨Nat.zero_le _, ⟨rfl, rfl, rfl, rfl, rfl, .refl rise_nil⟩, rfl, Bd.zero 1048576, ⟨rfl, rfl⟩, rfl, ⟨fun p hp => by (cases hp), fun h => absurd rfl h⟩⟩ ⟨⟨rfl, rfl, rfl, rfl, rfl, rfl, rfl, trivial⟩, Sub.refl _, rfl⟩ ?_
  rintro ⟨i, S, M, fa, fc, ps, rr⟩ ⟨hi, he, hb, hB, hcalm, hps, hsh⟩
  dsimp only at hi he hb hB hcalm hps hsh ⊢
  have hRb : Rb 1048576 i M := ⟨S.D, he, hB⟩
  have hrfs : ∀ {u : World}, (mP rr fa ps).p u → RFs rr u (.slice fa ps.length fc) M.files := fun h => by rw [← hps]; exact mP_rfs h
  refine cd (fun h => ?_) (fun h => ?_)
  · have hil : i < n := by omega
    have hact := hS i hil
    obtain ⟨q, hq⟩ : ∃ q, q = O i := ⟨_, rfl⟩
    rw [← hq] at hact
    obtain ⟨⟨bo, off, rfl, hbl, hc⟩, hrd, hl1, hl2⟩ := hact
    refine ⟨by omega, by omega, ?_⟩
    refine ldoN (d := #[VS q.name, .slice q.a q.bs.length q.c, .int .i64 q.sure]) (fun j u hu => by rw [nad_eq, nmu_eq, Int.toNat_natCast]; exact hc j u hu) hbl rfl ?_
    intro b11
    refine sN 4 rfl rfl rfl ?_ (by kernel_rfl)
    refine ld1 4 rfl (v := .slice q.a q.bs.length q.c) rfl ?_
    by_cases h2000 : 2000 < q.bs.length
    · have d1 : decide (((q.bs.length : Nat) : Int) > 2000) = true := decide_eq_true (by omega)
      have d2 : (decide (((q.bs.length : Nat) : Int) > 2000) == false) = false := by rw [d1]; rfl
      repeat (first | refine cf d2 ?_ | refine ct d1 ?_ | refine ct rfl ?_)
      exact rt rfl
    have d1 : decide (((q.bs.length : Nat) : Int) > 2000) = false := decide_eq_false (by omega)
    have d2 : (decide (((q.bs.length : Nat) : Int) > 2000) == false) = true := by rw [d1]; rfl
    iterate 2 refine ct d2 ?_
    refine ld1 4 rfl (v := VS q.name) rfl ?_
    iterate 2 refine ct d2 ?_
    refine cf d1 ?_
    by_cases h100 : 100 < q.name.length
    · refine ct (decide_eq_true (show ((q.name.length : Nat) : Int) > 100 by omega)) ?_
      exact rt rfl
    refine cf (decide_eq_false (show ¬ ((q.name.length : Nat) : Int) > 100 by omega)) ?_
    refine ld1 4 rfl (v := VS q.name) rfl ?_
    refine ld1 4 rfl (v := .slice q.a q.bs.length q.c) rfl ?_
    obtain ⟨a1, a2⟩ := he.append q.name q.bs
    have hB1 := hB.append q.name q.bs
    have hc1 := append_calm hcalm q.name q.bs
    have hst := hB.st
    rw [← hb]
    refine cTd 1 rfl (fun w1 hs => append_any S q.name q.bs (by omega) (by omega) _ w1 (hs.res (k := 1) rfl) (hrd.below hs.below) (rd_old hs 1 rfl hrd) (by omega) hB.lf (by have := hB.f.q; omega) (by have := hB.qt; omega)) (fun S1 g1 g2 => ?_)
    refine ldN 2 rfl rfl ?_
    refine ld1 4 rfl (v := VS q.name) rfl ?_
    refine ld1 4 rfl (v := .slice q.a q.bs.length q.c) rfl ?_
    obtain ⟨y, hy⟩ : ∃ y, y = rappendD M q.name q.bs := ⟨_, rfl⟩
    rw [← hy] at a1 a2
    refine cRs (M' := y.1) (code := y.2) 3 rfl (fun w1 hs => by rw [hy]; exact rappend_any M _ rr q.name q.bs _ (by omega) (by omega) (by have := hRb.fl; omega) (fun f hf => Nat.le_trans (hRb.fz f hf) (by decide)) (by have := hRb.us; omega) (by have := hRb.qt; omega) (by have := hRb.st; omega) hRb.lf w1 (hrfs (hs.res (k := 3) rfl)) (hs.res (k := 3) rfl : (mP rr fa ps).p w1).2 (hrd.below hs.below)) (fun ps2 fa2 fc2 rr2 f1 f2 f3 => ?_)
    intro b13
    refine sN 5 rfl rfl (rdC_one _ rfl) ?_ (by kernel_rfl)
    refine ldN 5 rfl rfl ?_
    refine sN 2 rfl rfl (rdC_one _ rfl) ?_ (by kernel_rfl)
    rw [a1]
    refine cv (fun w1 => num_any y.2 w1) ?_
    refine cf (hxx _) ?_
    refine .as ((i + 1 : Nat) : Int) (by omega) (by simp only [mn]; omega) (by simp only [mx]; omega) ?_
    exact ⟨(i + 1, S1, ⟨y.1, fa2, fc2, ps2, rr2⟩), ⟨hil, by rw [g1]; exact a2, g2.bd, by rw [g1]; exact hB1, by rw [g1]; exact hc1, f1, f2⟩, by dsimp only; omega, ⟨⟨rfl, rfl, rfl, rfl, rfl, rfl, rfl, trivial⟩, (.cons (.cons (.cons (.cons (.drop (.drop .nil)))))), rfl⟩⟩
  · have hB12 : Bd 1048576 12 S.D := hB.le (by omega)
    have d0 : ∀ b : Bool, (b == true) = b := fun b => by cases b <;> rfl
    by_cases h0 : 0 ≤ arm ∧ arm < 100
    · obtain ⟨k, rfl⟩ : ∃ k : Nat, arm = k := ⟨arm.toNat, by omega⟩
      have d1 : decide (((k : Nat) : Int) ≥ 0) = true := decide_eq_true (by omega)
      have d2 : (decide (((k : Nat) : Int) ≥ 0) == true) = true := by rw [d1]; rfl
      iterate 2 refine ct d2 ?_
      refine ct d1 ?_
      refine ct (decide_eq_true (by omega)) ?_
      rw [← hb]
      refine cT (α := Unit) (Φ := fun _ => True) (v := fun _ => .nilIface) (r' := fun _ => dkR (S.withD { S.D with armed := true, left := k })) 1 rfl (fun w1 hs => (arm_any S k w1 (hs.res (k := 1) rfl)).mono fun e w' ⟨h1, h2⟩ => ⟨(), trivial, h1, h2⟩) (fun _ _ => ?_)
      refine cf rfl ?_
      refine s1 2 rfl (by show 3 < 6; decide) ?_
      refine s1e 2 (rdC { M with armed := true, left := k } (.slice fa ps.length fc)) rfl (by show 2 < 6; decide) rfl ?_
      exact ⟨(S.withD { S.D with armed := true, left := k }, ⟨{ M with armed := true, left := k }, fa, fc, ps, rr⟩, b9), ⟨⟨he.st, rfl, rfl, he.gn, he.qt, he.f⟩, hB12.arm k (by omega), hcalm.1, hps, hsh⟩, ⟨⟨rfl, rfl, rfl, trivial⟩, Sub.refl _, rfl⟩⟩
    · have fin : ∀ s, Le ⟨[(0, .int .i64 z), (7, ptr S.bd), (9, ptr b9)], [rs laidR, rs (dkR S), cl b9 (rdC M (.slice fa ps.length fc)) TR, rs (mP rr fa ps)], []⟩ s → ∃ y : DkS × Fl × Nat, (Eqv y.1.D y.2.1.M ∧ Bd 1048576 12 y.1.D ∧ y.1.D.gone = false ∧ y.2.1.ps.map (·.2) = y.2.1.M.files ∧ PsOk y.2.1.fa y.2.1.ps) ∧ Le ⟨[(0, .int .i64 z), (7, ptr y.1.bd), (9, ptr y.2.2)], [rs laidR, rs (dkR y.1), cl y.2.2 (rdC y.2.1.M (.slice y.2.1.fa y.2.1.ps.length y.2.1.fc)) TR, rs (mP y.2.1.rr y.2.1.fa y.2.1.ps)], []⟩ s := fun s h => ⟨(S, ⟨M, fa, fc, ps, rr⟩, b9), ⟨he, hB12, hcalm.1, hps, hsh⟩, h⟩
      rw [← hb]
      by_cases h1 : 0 ≤ arm
      · have d1 : decide (arm ≥ 0) = true := decide_eq_true h1
        have d2 : (decide (arm ≥ 0) == true) = true := by rw [d1]; rfl
        iterate 2 refine ct d2 ?_
        refine ct d1 ?_
        refine cf (decide_eq_false (by omega)) ?_
        exact fin _ ⟨⟨rfl, rfl, rfl, trivial⟩, Sub.refl _, rfl⟩
      · have d1 : decide (arm ≥ 0) = false := decide_eq_false h1
        have d2 : (decide (arm ≥ 0) == true) = false := by rw [d1]; rfl
        repeat (first | refine cf d2 ?_ | refine cf d1 ?_ | refine cf rfl ?_)
        exact fin _ ⟨⟨rfl, rfl, rfl, trivial⟩, Sub.refl _, rfl⟩
end Go.Proofs.YteamnhpplclmfaaGreatDoor
end
