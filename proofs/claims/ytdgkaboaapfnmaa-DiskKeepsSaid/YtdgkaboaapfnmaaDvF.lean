/- The law DiskQuota: plain law and walk. -/
import Derived.Test.YtdgkaboaapfnmaaDvE
namespace Go.Proofs.Ytdgkaboaapfnmaa
open Go.RowKit Go.Sx
set_option linter.unusedVariables false

abbrev nsF (fs : List Fe) : List (List UInt8) := sortT (fs.map (·.name))
theorem ns_len (fs : List Fe) : (nsF fs).length = fs.length := by rw [(sortT_perm _).length_eq, List.length_map]
theorem ns_at {fs : List Fe} (h : Nms fs) {j : Nat} (hj : j < (nsF fs).length) : ∃ f, f ∈ fs ∧ f.name = (nsF fs)[j] ∧ findF (nsF fs)[j] fs = some f := by
  have h1 : (nsF fs)[j] ∈ fs.map (·.name) := (sortT_perm _).mem_iff.1 (List.getElem_mem hj)
  obtain ⟨f, hf, he⟩ := List.mem_map.1 h1
  exact ⟨f, hf, he, by rw [← he]; exact find_some h hf⟩
theorem ns_lt {fs : List Fe} (h : Nms fs) {i j : Nat} (hij : i < j) (hj : j < (nsF fs).length) : (nsF fs)[i] < (nsF fs)[j] := by
  have h1 := List.pairwise_iff_getElem.1 (sortT_pw (fs.map (·.name))) i j (Nat.lt_trans hij hj) hj hij
  have h2 : (nsF fs).Nodup := (sortT_perm _).nodup_iff.2 h
  have h3 : (nsF fs)[i] ≠ (nsF fs)[j] := List.pairwise_iff_getElem.1 h2 i j (Nat.lt_trans hij hj) hj hij
  exact Decidable.byContradiction fun hn => h3 (List.le_antisymm h1 (List.not_lt.1 hn))
def sumF (fs : List Fe) (l : List (List UInt8)) : Nat := (l.map fun n => lenF n fs).sum
theorem sum_all {fs : List Fe} (h : Nms fs) : sumF fs (nsF fs) = usedD fs := by
  unfold sumF usedD
  rw [List.Perm.sum_nat ((sortT_perm _).map _), List.map_map]
  congr 1
  exact List.map_congr_left fun f hf => lenF_some (find_some h hf)
theorem sum_le (fs : List Fe) (l : List (List UInt8)) (j : Nat) : sumF fs (l.take j) ≤ sumF fs l := by
  have h : sumF fs l = sumF fs (l.take j) + sumF fs (l.drop j) := by
    unfold sumF
    rw [← List.sum_append_nat, ← List.map_append, List.take_append_drop]
  omega
theorem sum_take {fs : List Fe} {l : List (List UInt8)} {j : Nat} (hj : j < l.length) : sumF fs (l.take (j + 1)) = sumF fs (l.take j) + lenF l[j] fs := by
  unfold sumF
  rw [List.take_succ_eq_append_getElem hj, List.map_append, List.sum_append_nat]; simp
theorem find_crash (k : Int) (n : List UInt8) (fs : List Fe) : findF n (fs.map (crashF k)) = (findF n fs).map (crashF k) := by
  induction fs with
  | nil => rfl
  | cons f l ih =>
    rw [List.map_cons, findF, findF]
    by_cases h : n = f.name
    · rw [if_pos h, if_pos (show n = (crashF k f).name from h)]; rfl
    · rw [if_neg h, if_neg (show ¬ n = (crashF k f).name from h), ih]
theorem read_crash {D : Dk} {n : List UInt8} {f : Fe} (k : Int) (h : findF n D.files = some f) : readD (crashD D k) n = ((crashF k f).bs, 0) :=
  readN _ n rfl (by show findF n (D.files.map (crashF k)) = _; rw [find_crash, h]; rfl)
theorem crash_all {f : Fe} (h1 : f.sure ≤ f.bs.length) (h2 : f.bs.length ≤ 1000000) : (crashF 1073741824 f).bs = f.bs := by
  have : f.sure + min (1073741824 : Int).toNat (f.bs.length - f.sure) = f.bs.length := by
    have : (1073741824 : Int).toNat = 1073741824 := rfl
    omega
  unfold crashF
  simp only [this, List.take_length]
theorem fe_len {q k : Nat} {fs : List Fe} (h : Fl q k fs) {f : Fe} (hf : f ∈ fs) : f.bs.length ≤ usedD fs := by
  unfold usedD
  exact le_sum (List.mem_map_of_mem (f := fun f : Fe => f.bs.length) hf)
/-- a copy of a disk, beside it -/
theorem copy_dk {B w1 : World} {L : List Ent} {S : DkS} (hs : St [] B w1 L) (j : Nat) (hL : L[j]? = some (rs (dkR S))) : Calls Try.prog 21 ([ptr S.bd] : List Value).toArray w1 fun e w' => ∃ x : Nat × Nat, True ∧ e = .returned (ptr x.1) ∧ Below w1.heap.size w1 w' ∧ (dkR (S.at x)).p w' ∧ (∀ k, (dkR (S.at x)).w k → w1.heap.size ≤ k) ∧ ∀ k, (dkR (S.at x)).r k → w1.heap.size ≤ k ∨ ∃ f ∈ L, f.A k ∧ ¬ f.W k := by
  have ht : DkP S w1 := hs.res hL
  refine (copyd_any S w1 ht).mono fun e w' ⟨x, h0, h1, h2, h3, h4⟩ => ⟨x, h0, h1, h2, h3, h4, fun k hk => .inr ⟨_, List.mem_of_getElem? hL, (rsA _ _).2 (.inr hk), fun hw => ?_⟩⟩
  rcases (rsW _ _).1 hw with e | e
  · exact (ht.r k hk).2.1 e
  · exact (ht.r k hk).2.2 e
theorem txt_at {l : List (List UInt8)} {jk : List Value} {j : Nat} (hj : j < l.length) : ((txtCells l ++ jk).toArray)[j]? = some (VS l[j]) := by
  have : j < (txtCells l).length := by simpa [txtCells] using hj
  rw [List.getElem?_toArray, List.getElem?_append_left this]
  simp [txtCells, hj]
set_option maxRecDepth 100000 in
set_option maxHeartbeats 4000000 in
theorem law_quota (z : Int) (hz : -9223372036854775808 ≤ z ∧ z ≤ 9223372036854775807) (v : Value) (n : Nat) (O : Nat → Opn × Value) (w : World) (hS : Scr w v n O) : Calls Try.prog 8 ([.int .i64 z, v] : List Value).toArray w fun e w' => e = .returned (.bool true) ∧ Below w.heap.size w w' := by
  have hbig := large_any v n O
  obtain ⟨hn, a, c, rfl, hS⟩ := hS
  refine enterV tab_ok Try.func8 rfl Try.ntmps8 rfl (St.start w) ?_
  refine cv alive_any ?_
  refine cf rfl ?_
  refine cvs (fun w1 hs => hbig w1 ⟨hn, a, c, rfl, fun i hi => (hS i hi).below hs.below⟩) ?_
  cases hb : bigS O n with
  | true =>
    iterate 2 refine cf rfl ?_
    refine ct rfl ?_
    iterate 2 refine cf rfl ?_
    iterate 2 refine ct rfl ?_
    exact rt rfl
  | false =>
  iterate 2 refine ct rfl ?_
  refine cf rfl ?_
  obtain ⟨hn81, hsmall⟩ := bigS_no hb
  by_cases hz0 : z < 0
  · have d1 := decide_eq_true hz0
    have d2 : (decide (z < 0) == false) = false := by rw [d1]; rfl
    iterate 2 refine cf d2 ?_
    refine ct d1 ?_
    refine ct rfl ?_
    exact rt rfl
  have d1 := decide_eq_false hz0
  have d2 : (decide (z < 0) == false) = true := by rw [d1]; rfl
  iterate 2 refine ct d2 ?_
  refine cf d1 ?_
  by_cases hz1 : z > 16777216
  · refine ct (decide_eq_true hz1) ?_
    exact rt rfl
  refine cf (decide_eq_false hz1) ?_
  clear d1 d2
  obtain ⟨q, rfl⟩ : ∃ q : Nat, z = q := ⟨z.toNat, by omega⟩
  have hq' : q ≤ 16777216 := by omega
  refine cM (α := Nat × Nat) (Φ := fun _ => True) (v := fun x => .tuple #[ptr x.1, .nilIface]) (r' := fun x => dkR (dk0 q x.1 x.2)) (fun w1 hs => (new_any q hq' w1).mono fun e w' ⟨x, h0, h1, h2, h3, h4, h5⟩ => ⟨x, h0, h1, h2, h3, h4, fun k hk => (h5 k hk).elim⟩) (fun x _ => ?_)
  obtain ⟨bd, bm⟩ := x
  refine cf rfl ?_
  refine lp tab_ok (fun x : Nat × DkS => x.1 ≤ n ∧ Cnt q x.1 x.2.D ∧ x.2.bd = bd) (fun x => ⟨[(0, .int .i64 q), (5, ptr bd), (35, .slice a n c), (36, .int .i64 n), (37, .int .i64 x.1)], [rs (dkR x.2)], []⟩) (fun x => n - x.1)
    (0, dk0 q bd bm) ⟨Nat.zero_le _, Cnt.zero q 0, rfl⟩ ⟨⟨rfl, rfl, rfl, rfl, rfl, trivial⟩, .cons .nil, rfl⟩ ?_
  rintro ⟨i, S⟩ ⟨hi, hc, hpb⟩
  simp only at hi hc hpb
  refine cd (fun h => ?_) (fun h => ?_)
  · have hil : i < n := by (try simp only at h); omega
    have hact := hS i hil
    obtain ⟨hs1, hs2, hs3⟩ := hsmall i hil
    obtain ⟨q, hq⟩ : ∃ q, q = O i := ⟨_, rfl⟩
    rw [← hq] at hact hs1 hs2 hs3
    obtain ⟨o, bv⟩ := q
    simp only at hs1 hs2 hs3
    have hact0 := hact
    obtain ⟨⟨blk, off, rfl, hblk, hck⟩, hrd, hnr, _⟩ := hact0
    obtain ⟨ba, bc, hbv⟩ : ∃ a c, bv = .slice a o.b.length c := by obtain ⟨a, c, e, _⟩ := hrd; exact ⟨a, c, by simpa [Lib.byteCells_length] using e⟩
    subst hbv
    simp only at hnr
    refine ⟨by omega, by (try simp only); omega, ?_⟩
    refine ldoN (d := #[.int .i64 o.kind, VS o.name, VS o.to, .int .i64 o.n, .slice ba o.b.length bc]) (fun j u hu => by rw [nad_eq, nmu_eq, Int.toNat_natCast]; exact hck j u hu) hblk rfl ?_
    intro b8
    refine sN 1 rfl rfl rfl ?_ (by kernel_rfl)
    have hfits := hc.fits (by omega) hq'
    refine bu (c := rdC ⟨0, 0, false, false, q, []⟩ (.slice none 0 0)) (by kernel_rfl) ?_
    refine ldN 1 rfl rfl ?_
    refine cT (α := Two) (Φ := fun T' => DoP ⟨S, ⟨0, 0, false, false, q, []⟩, .slice none 0 0, fun _ => False⟩ o T') (v := fun T' => doV ⟨S, ⟨0, 0, false, false, q, []⟩, .slice none 0 0, fun _ => False⟩ T' o) (r' := fun T' => dkR T'.S) 0 rfl (fun w1 hs => by have := do_dk (q := q) (o := o) (bv := .slice ba o.b.length bc) hs 0 rfl hfits hq' hact hs1 hs2 hs3; rwa [hpb] at this) (fun T' hT' => ?_)
    have hc' := hc.doD o hs1 hnr.2
    obtain ⟨S', M', fv', rr'⟩ := T'
    obtain ⟨hD', hbd', hbm', hM', fa', fn', fc', hfv'⟩ := hT'
    simp only at hD' hbd' hbm' hM' hfv'
    subst hfv'
    rw [← hD'] at hc'
    have hfits' := hc'.fits (by omega) hq'
    have hb' : S'.bd = bd := hbd'.trans hpb
    have hN := hc'.f.n
    have hfl := hfits'.fl
    have hus := hfits'.us
    have huq := hc'.f.q
    refine cM (α := Nat × Nat) (Φ := fun _ => True) (v := fun x => ptr x.1) (r' := fun x => dkR (S'.at x)) (fun w1 hs => by have := copy_dk hs 0 rfl; rwa [hb'] at this) (fun x _ => ?_)
    refine cT (α := DkS) (Φ := fun S2 => S2.D = crashD S'.D 1073741824 ∧ S2.bd = x.1) (v := fun _ => .tuple #[]) (r' := dkR) 2 rfl (fun w1 hs => by
      have := crash_any (S'.at x) 1073741824 (by decide) w1 (hs.res (k := 2) rfl)
      exact this.mono fun e w' ⟨S', ⟨h1, h2, _⟩, he, ht⟩ => ⟨S', ⟨h1, h2⟩, he, ht⟩) (fun S2 hS2 => ?_)
    obtain ⟨hD2, hb2⟩ := hS2
    refine co (fun w1 hs => by have := names_any S' w1 (hs.res (k := 0) rfl) hfl; rwa [hb'] at this) (fun r hR => ?_)
    obtain ⟨a1, c1, hv1⟩ := rw_slice hR
    rw [hv1]
    have hnl := ns_len S'.D.files
    refine lp tab_ok (fun j : Nat => j ≤ S'.D.files.length) (fun j => ⟨[(0, .int .i64 q), (5, ptr bd), (9, .int .i64 (sumF S'.D.files ((nsF S'.D.files).take j))), (10, ptr x.1), (11, .slice a1 S'.D.files.length c1), (35, .slice (some ⟨blk, off, none⟩) n c), (36, .int .i64 n), (37, .int .i64 i), (57, .slice a1 S'.D.files.length c1), (58, .int .i64 S'.D.files.length), (59, .int .i64 j)], [rs (dkR S'), rs (dkR S2), se r (txtCells (nsF S'.D.files)) 9], []⟩) (fun j => S'.D.files.length - j)
      0 (Nat.zero_le _) ⟨⟨rfl, rfl, rfl, rfl, rfl, rfl, rfl, rfl, rfl, rfl, rfl, trivial⟩, .cons (.drop (.cons (.cons .nil))), rfl⟩ ?_
    intro j hj
    have hsj := sum_le S'.D.files (nsF S'.D.files) j
    rw [sum_all hN] at hsj
    refine cd (fun h => ?_) (fun h => ?_)
    · have hjl : j < S'.D.files.length := by omega
      have hjn : j < (nsF S'.D.files).length := by omega
      have hsj1 := sum_le S'.D.files (nsF S'.D.files) (j + 1)
      rw [sum_all hN] at hsj1
      have hst := sum_take (fs := S'.D.files) hjn
      obtain ⟨f, hfm, hfn, hfind⟩ := ns_at hN hjn
      have hlt : ∀ i', i' < j → ∀ h', (nsF S'.D.files)[i']'h' < (nsF S'.D.files)[j] := fun i' h1 _ => ns_lt hN h1 hjn
      have htx : ∀ (jk : List Value) (i' : Nat) (h' : i' < (nsF S'.D.files).length), ((txtCells (nsF S'.D.files) ++ jk).toArray)[i']? = some (VS (nsF S'.D.files)[i']) := fun jk i' h' => txt_at h'
      rw [lenF_some hfind] at hst
      have hfz := hc'.f.z f hfm
      have hfl2 := fe_len hc'.f hfm
      have hrd2 : readD S2.D (nsF S'.D.files)[j] = (f.bs, 0) := by rw [hD2, read_crash _ hfind, crash_all hfz (by omega)]
      generalize hnm : (nsF S'.D.files)[j] = nm at *
      have hv1' := hv1
      rcases r with _ | ⟨rb, rc, jk⟩
      · exact absurd hR.2 (by omega)
      · injection hv1' with e1 e2 e3
        subst e1
        refine ⟨by omega, by omega, ?_⟩
        refine ld1 2 rfl (v := VS nm) (by rw [nad_eq, nmu_eq, Int.toNat_natCast, Nat.zero_add, Nat.mul_one]; exact (htx jk j hjn).trans (by rw [hnm])) ?_
        refine coV (n := f.bs.length) (z := 1) (xs := Lib.byteCells f.bs) (e := 5) (fun v => .tuple #[v, .nilIface]) (fun w1 hs => by have := read_any S2 nm w1 (hs.res (k := 1) rfl); rw [hrd2, hb2] at this; exact this) (fun r3 hR3 => ?_)
        obtain ⟨a3, c3, hv3⟩ := rw_slice hR3
        rw [hv3]
        have p1 : decide (((f.sure : Nat) : Int) > (f.bs.length : Nat)) = false := decide_eq_false (by omega)
        have p2 : (decide (((f.sure : Nat) : Int) > (f.bs.length : Nat)) == false) = true := by rw [p1]; rfl
        have s1 : decide (((f.sure : Nat) : Int) < 0) = false := decide_eq_false (by omega)
        have s2 : (decide (((f.sure : Nat) : Int) < 0) == false) = true := by rw [s1]; rfl
        iterate 3 refine ct rfl ?_
        refine cvs (v := .int .i64 f.sure) (fun w1 hs => by have := sure_any S' nm w1 (hs.res (k := 0) rfl); rwa [hb', hfind] at this) ?_
        iterate 3 refine ct rfl ?_
        refine cf rfl ?_
        iterate 3 refine ct p2 ?_
        refine cvs (v := .int .i64 f.sure) (fun w1 hs => by have := sure_any S' nm w1 (hs.res (k := 0) rfl); rwa [hb', hfind] at this) ?_
        refine ct p2 ?_
        refine cf p1 ?_
        iterate 3 refine ct s2 ?_
        by_cases hj0 : j = 0
        · have u1 : decide (((j : Nat) : Int) > 0) = false := decide_eq_false (by omega)
          have u2 : (decide (((j : Nat) : Int) > 0) == true) = false := by rw [u1]; rfl
          iterate 7 refine cf u2 ?_
          refine ct s2 ?_
          refine cf u1 ?_
          refine cf s1 ?_
          refine cf rfl ?_
          refine .as ((sumF S'.D.files ((nsF S'.D.files).take (j + 1)) : Nat) : Int) (by rw [hst]; simp) (by simp only [mn]; omega) (by simp only [mx]; omega) ?_
          refine .as ((j + 1 : Nat) : Int) (by simp) (by simp only [mn]; omega) (by simp only [mx]; omega) ?_
          exact ⟨j + 1, by omega, by omega, ⟨⟨rfl, rfl, rfl, rfl, rfl, rfl, rfl, rfl, rfl, rfl, rfl, trivial⟩, .cons (.cons (.cons .nil)), rfl⟩⟩
        · have u1 : decide (((j : Nat) : Int) > 0) = true := decide_eq_true (by omega)
          have u2 : (decide (((j : Nat) : Int) > 0) == true) = true := by rw [u1]; rfl
          have hl1 := hlt (j - 1) (by omega) (by omega)
          have ht1 := htx jk (j - 1) (by omega)
          generalize (nsF S'.D.files)[j - 1]'(by omega) = nm1 at hl1 ht1
          iterate 3 refine ct u2 ?_
          refine .as ((j - 1 : Nat) : Int) (by omega) (by simp only [mn]; omega) (by simp only [mx]; omega) ?_
          refine ct u2 ?_
          refine ⟨by omega, by omega, ?_⟩
          refine ct u2 ?_
          refine ld1 2 rfl (v := VS nm1) (by rw [nad_eq, nmu_eq, Int.toNat_natCast, Nat.zero_add, Nat.mul_one]; exact ht1) ?_
          iterate 2 refine ct u2 ?_
          refine ct s2 ?_
          refine ct u1 ?_
          refine cf s1 ?_
          refine cf (by show (!_) = false; rw [str_less, decide_eq_true hl1]; rfl) ?_
          refine .as ((sumF S'.D.files ((nsF S'.D.files).take (j + 1)) : Nat) : Int) (by rw [hst]; simp) (by simp only [mn]; omega) (by simp only [mx]; omega) ?_
          refine .as ((j + 1 : Nat) : Int) (by simp) (by simp only [mn]; omega) (by simp only [mx]; omega) ?_
          exact ⟨j + 1, by omega, by omega, ⟨⟨rfl, rfl, rfl, rfl, rfl, rfl, rfl, rfl, rfl, rfl, rfl, trivial⟩, .cons (.cons (.cons .nil)), rfl⟩⟩
    · obtain rfl : j = S'.D.files.length := by omega
      rw [List.take_of_length_le (by omega), sum_all hN]
      have hud : ∀ w1, DkP S' w1 → Calls Try.prog 14 ([ptr bd] : List Value).toArray w1 fun e w' => e = .returned (.int .i64 (usedD S'.D.files)) ∧ Below w1.heap.size w1 w' := fun w1 hw => by have := used_any S' w1 hw (Nat.le_trans hus (by decide)); rwa [hb'] at this
      have k1 : (((usedD S'.D.files : Nat) : Int) != (usedD S'.D.files : Nat)) = false := by simp
      have k2 : ((((usedD S'.D.files : Nat) : Int) != (usedD S'.D.files : Nat)) == false) = true := by rw [k1]; rfl
      have g1 : decide (((usedD S'.D.files : Nat) : Int) > (q : Nat)) = false := decide_eq_false (by omega)
      have g2 : (decide (((usedD S'.D.files : Nat) : Int) > (q : Nat)) == false) = true := by rw [g1]; rfl
      refine cvs (fun w1 hs => hud w1 (hs.res (k := 0) rfl)) ?_
      iterate 2 refine ct k2 ?_
      refine cvs (fun w1 hs => hud w1 (hs.res (k := 0) rfl)) ?_
      iterate 2 refine ct k2 ?_
      refine cf k1 ?_
      iterate 2 refine ct g2 ?_
      refine cvs (v := .int .i64 ((q : Int) - usedD S'.D.files)) (fun w1 hs => by have := free_any S' w1 (hs.res (k := 0) rfl) (Nat.le_trans hus (by decide)) hfits'.qt; rwa [hb', hc'.qt] at this) ?_
      iterate 3 refine ct g2 ?_
      refine .as ((q : Int) - usedD S'.D.files) rfl (by simp only [mn]; omega) (by simp only [mx]; omega) ?_
      refine ct g2 ?_
      refine cf g1 ?_
      refine cf (by simp) ?_
      refine .as ((i + 1 : Nat) : Int) (by simp) (by simp only [mn]; omega) (by simp only [mx]; omega) ?_
      exact ⟨(i + 1, S'), ⟨by (try simp only); omega, hc', hb'⟩, by (try simp only); omega, ⟨⟨rfl, rfl, rfl, rfl, rfl, trivial⟩, .cons .nil, rfl⟩⟩
  · exact rt rfl
end Go.Proofs.Ytdgkaboaapfnmaa
