/- The law DiskKeeps: the walk. -/
import Derived.Test.YtdgkaboaapfnmaaDvF
namespace Go.Proofs.Ytdgkaboaapfnmaa
open Go.RowKit Go.Sx
set_option linter.unusedVariables false

theorem rw_slice2 {n : Nat} {r : Sx.Own} {xs : List Value} {a : Option Addr} {c : Nat} (h : Rw 1 n r xs) (hv : sv r n = .slice a n c) : (∀ x, a = some x → x.spot = none) ∧ n ≤ c := by
  cases r with
  | none =>
    have : n = 0 := h.2
    subst this
    injection hv with e1 e2 e3
    subst e1
    exact ⟨(fun x hx => by cases hx), by omega⟩
  | some p =>
    obtain ⟨b, cc, j⟩ := p
    injection hv with e1 e2 e3
    subst e1; subst e3
    exact ⟨(fun x hx => by obtain rfl := Option.some.inj hx; rfl), h.2.1⟩
theorem Turns.ofdk {w w' : World} {T : Two} {S' : DkS} (h : Turns w w' (dkR T.S) (dkR S')) : Turns w w' (twoR T) (dkR S') :=
  ⟨h.os, h.tape, h.output, h.size, h.old, h.ok, h.W, fun k hk => (h.A k hk).imp (fun h => h.imp id .inl) id⟩
/-- a copy of the one disk, beside both -/
theorem copy_dk2 {B w1 : World} {L : List Ent} {T : Two} (hs : St [] B w1 L) (j : Nat) (hL : L[j]? = some (rs (twoR T))) : Calls Try.prog 21 ([ptr T.S.bd] : List Value).toArray w1 fun e w' => ∃ x : Nat × Nat, True ∧ e = .returned (ptr x.1) ∧ Below w1.heap.size w1 w' ∧ (dkR (T.S.at x)).p w' ∧ (∀ k, (dkR (T.S.at x)).w k → w1.heap.size ≤ k) ∧ ∀ k, (dkR (T.S.at x)).r k → w1.heap.size ≤ k ∨ ∃ f ∈ L, f.A k ∧ ¬ f.W k := by
  have ht : TwoP T w1 := hs.res hL
  refine (copyd_any T.S w1 ht.d).mono fun e w' ⟨x, h0, h1, h2, h3, h4⟩ => ⟨x, h0, h1, h2, h3, h4, fun k hk => .inr ⟨_, List.mem_of_getElem? hL, (rsA _ _).2 (.inr (.inl hk)), fun hw => ?_⟩⟩
  rcases (rsW _ _).1 hw with e | e
  · exact (ht.d.r k hk).2.1 e
  · exact (ht.d.r k hk).2.2 e
theorem names_crash (D : Dk) (k : Int) : (crashD D k).files.map (·.name) = D.files.map (·.name) := by
  show (D.files.map (crashF k)).map (·.name) = _
  rw [List.map_map]; rfl
set_option maxRecDepth 100000 in
set_option maxHeartbeats 4000000 in
theorem law_keeps (z : Int) (hz : -9223372036854775808 ≤ z ∧ z ≤ 9223372036854775807) (v : Value) (n : Nat) (O : Nat → Opn × Value) (keep : Int) (hkp : -9223372036854775808 ≤ keep ∧ keep ≤ 9223372036854775807) (w : World) (hS : Scr w v n O) : Calls Try.prog 5 ([.int .i64 z, v, .int .i64 keep] : List Value).toArray w fun e w' => e = .returned (.bool true) ∧ Below w.heap.size w w' := by
  have hbig := large_any v n O
  obtain ⟨hn, a, c, rfl, hS⟩ := hS
  refine enterV tab_ok Try.func5 rfl Try.ntmps5 rfl (St.start w) ?_
  refine cv alive_any ?_
  refine cf rfl ?_
  refine cvs (fun w1 hs => hbig w1 ⟨hn, a, c, rfl, fun i hi => (hS i hi).below hs.below⟩) ?_
  cases hb : bigS O n with
  | true =>
    refine ct rfl ?_
    exact rt rfl
  | false =>
  refine cf rfl ?_
  obtain ⟨hn81, hsmall⟩ := bigS_no hb
  by_cases hq : z < 0 ∨ 16777216 < z
  · refine cv (new_bad z hq hz) ?_
    refine ct rfl ?_
    refine cv (is_any 2 2) ?_
    exact rt rfl
  obtain ⟨q, rfl⟩ : ∃ q : Nat, z = q := ⟨z.toNat, by omega⟩
  have hq' : q ≤ 16777216 := by omega
  refine cM (α := Nat × Nat) (Φ := fun _ => True) (v := fun x => .tuple #[ptr x.1, .nilIface]) (r' := fun x => twoR (two0 q x)) (fun w1 hs => (new_two q hq').mono fun e w' ⟨x, h0, h1, h2, h3, h4, h5⟩ => ⟨x, h0, h1, h2, h3, h4, fun k hk => (h5 k hk).elim⟩) (fun x _ => ?_)
  obtain ⟨bd, bm⟩ := x
  refine cf rfl ?_
  refine bu (c := rdC ⟨0, 0, false, false, q, []⟩ (.slice none 0 0)) (by kernel_rfl) ?_
  intro b7
  refine sN 1 rfl rfl (rdC_one _ rfl) ?_ (by kernel_rfl)
  refine lp tab_ok (fun x : Nat × Two => x.1 ≤ n ∧ Plays q x.1 bd x.2) (fun x => ⟨[(2, .int .i64 keep), (7, ptr bd), (9, ptr b7), (35, .slice a n c), (36, .int .i64 n), (37, .int .i64 x.1)], [rs (twoR x.2), cl b7 (rdC x.2.M x.2.fv) TR], []⟩) (fun x => n - x.1)
    (0, two0 q (bd, bm)) ⟨Nat.zero_le _, plays0 q bd bm⟩ ⟨⟨rfl, rfl, rfl, rfl, rfl, rfl, trivial⟩, .cons (.cons .nil), rfl⟩ ?_
  rintro ⟨i, S, M, fv, rr⟩ ⟨hi, hp⟩
  simp only at hi hp
  obtain ⟨fa, fn, fc, hfv⟩ := hp.v
  simp only at hfv
  subst hfv
  have hpb : S.bd = bd := hp.b
  refine cd (fun h => ?_) (fun h => ?_)
  · have hil : i < n := by (try simp only at h); omega
    have hact := hS i hil
    obtain ⟨hs1, hs2, hs3⟩ := hsmall i hil
    obtain ⟨qq, hqq⟩ : ∃ q, q = O i := ⟨_, rfl⟩
    rw [← hqq] at hact hs1 hs2 hs3
    obtain ⟨o, bv⟩ := qq
    simp only at hs1 hs2 hs3
    have hact0 := hact
    obtain ⟨⟨blk, off, rfl, hblk, hc⟩, hrd, hnr, _⟩ := hact0
    obtain ⟨ba, bc, hbv⟩ : ∃ a c, bv = .slice a o.b.length c := by obtain ⟨a, c, e, _⟩ := hrd; exact ⟨a, c, by simpa [Lib.byteCells_length] using e⟩
    subst hbv
    simp only at hnr
    refine ⟨by omega, by (try simp only); omega, ?_⟩
    refine ldoN (d := #[.int .i64 o.kind, VS o.name, VS o.to, .int .i64 o.n, .slice ba o.b.length bc]) (fun j u hu => by rw [nad_eq, nmu_eq, Int.toNat_natCast]; exact hc j u hu) hblk rfl ?_
    intro b11
    refine sN 2 rfl rfl rfl ?_ (by kernel_rfl)
    refine ldN 1 rfl rfl ?_
    refine ldN 2 rfl rfl ?_
    obtain ⟨cd', hcd⟩ : ∃ c, c = (doM M o).2 := ⟨_, rfl⟩
    refine cT (α := Two) (Φ := fun T' => DoP ⟨S, M, .slice fa fn fc, rr⟩ o T') (v := fun T' => .tuple #[.agg (rdC T'.M T'.fv), .int .i64 cd', .int .i64 cd', .bool true]) (r' := twoR) 0 rfl (fun w1 hs => ?_) (fun T' hT' => ?_)
    · have := do_act (T := ⟨S, M, .slice fa fn fc, rr⟩) (o := o) (bv := .slice ba o.b.length bc) hs 0 rfl (hp.d.fits (by omega) hq') (hp.m.fits (by omega) hq') hact hs1 hs2 hs3
      unfold DoR doV at this
      simp only at this
      rw [hpb, same_eqv hp.e, (show (doD S.D o).2 = (doM M o).2 from (hp.e.act1 o).1), ← hcd] at this
      exact this
    have hp' := hp.next hT' hs1 hnr.2
    obtain ⟨S', M', fv', rr'⟩ := T'
    obtain ⟨fa', fn', fc', hfv'⟩ := hp'.v
    simp only at hfv'
    subst hfv'
    refine sN 1 rfl rfl (rdC_one M' rfl) ?_ (by kernel_rfl)
    refine .as ((i + 1 : Nat) : Int) (by simp) (by simp only [mn]; omega) (by simp only [mx]; omega) ?_
    exact ⟨(i + 1, ⟨S', M', .slice fa' fn' fc', rr'⟩), ⟨by (try simp only); omega, hp'⟩, by (try simp only); omega, ⟨⟨rfl, rfl, rfl, rfl, rfl, rfl, trivial⟩, .cons (.cons .nil), rfl⟩⟩
  · have hc : Cnt q i S.D := hp.d
    have hf := hc.fits (by omega) hq'
    have hN := hc.f.n
    have hfl := hf.fl
    refine cM (α := Nat × Nat) (Φ := fun _ => True) (v := fun x => ptr x.1) (r' := fun x => dkR (S.at x)) (fun w1 hs => by have := copy_dk2 hs 0 rfl; rwa [hpb] at this) (fun x _ => ?_)
    refine cvs (v := .int .i64 S.D.steps) (fun w1 hs => by
      have ht : TwoP ⟨S, M, .slice fa fn fc, rr⟩ w1 := hs.res (k := 0) rfl
      have := steps_any S w1 ht.d
      rwa [hpb] at this) ?_
    refine cT (α := DkS) (Φ := fun S1 => S1.D = crashD S.D keep ∧ S1.bd = bd) (v := fun _ => .tuple #[]) (r' := dkR) 0 rfl (fun w1 hs => by
      have ht : TwoP ⟨S, M, .slice fa fn fc, rr⟩ w1 := hs.res (k := 0) rfl
      have := crash_any S keep hkp w1 ht.d
      rw [hpb] at this
      exact this.mono fun e w' ⟨S', ⟨h1, h2, _⟩, he, ht⟩ => ⟨S', ⟨h1, h2⟩, he, Turns.ofdk ht⟩) (fun S1 hS1 => ?_)
    obtain ⟨hD1, hb1⟩ := hS1
    have hg1 : S1.D.gone = false := by rw [hD1]; rfl
    have hst1 : S1.D.steps = S.D.steps := by rw [hD1]; rfl
    have hnm1 : S1.D.files.map (·.name) = S.D.files.map (·.name) := by rw [hD1]; exact names_crash S.D keep
    have hfl1 : S1.D.files.length = S.D.files.length := by have := congrArg List.length hnm1; simpa using this
    refine cvs (v := .bool false) (fun w1 hs => by have := down_any S1 w1 (hs.res (k := 0) rfl); rwa [hb1, hg1] at this) ?_
    iterate 2 refine ct rfl ?_
    refine cvs (v := .int .i64 S.D.steps) (fun w1 hs => by have := steps_any S1 w1 (hs.res (k := 0) rfl); rwa [hb1, hst1] at this) ?_
    have k1 : (((S.D.steps : Nat) : Int) != (S.D.steps : Nat)) = false := by simp
    have k2 : ((((S.D.steps : Nat) : Int) != (S.D.steps : Nat)) == false) = true := by rw [k1]; rfl
    iterate 2 refine ct rfl ?_
    refine cf rfl ?_
    iterate 2 refine ct k2 ?_
    have hnames : ∀ w1, DkP S1 w1 → Calls Try.prog 23 ([ptr bd] : List Value).toArray w1 fun e w' => ∃ r, e = .returned (sv r S.D.files.length) ∧ Rw 1 S.D.files.length r (txtCells (nsF S.D.files)) ∧ Made w1 w' r (txtCells (nsF S.D.files)) 9 ∧ Below w1.heap.size w1 w' := fun w1 hw => by
      have := names_any S1 w1 hw (by omega)
      rwa [hb1, hfl1, hnm1] at this
    refine co (fun w1 hs => hnames w1 (hs.res (k := 0) rfl)) (fun r1 hR1 => ?_)
    iterate 2 refine ct k2 ?_
    refine co (fun w1 hs => names_any (S.at x) w1 (hs.res (k := 2) rfl) hfl) (fun r2 hR2 => ?_)
    refine ct k2 ?_
    refine cvs (v := .bool true) (fun w1 hs => by have := texts_any _ _ (nsF S.D.files) (nsF S.D.files) (by rw [ns_len]; omega) (by rw [ns_len]; unfold maxLen; omega) w1 (Rd.own hs 3 rfl hR1) (Rd.own hs 4 rfl hR2); rwa [decide_eq_true rfl] at this) ?_
    refine ct k2 ?_
    refine cf k1 ?_
    refine cf rfl ?_
    refine cT (α := DkS) (Φ := fun S2 => S2.D = crashD S.D 1073741824 ∧ S2.bd = x.1) (v := fun _ => .tuple #[]) (r' := dkR) 2 rfl (fun w1 hs => by
      have := crash_any (S.at x) 1073741824 (by decide) w1 (hs.res (k := 2) rfl)
      exact this.mono fun e w' ⟨S', ⟨h1, h2, _⟩, he, ht⟩ => ⟨S', ⟨h1, h2⟩, he, ht⟩) (fun S2 hS2 => ?_)
    obtain ⟨hD2, hb2⟩ := hS2
    refine co (fun w1 hs => hnames w1 (hs.res (k := 0) rfl)) (fun r hR => ?_)
    obtain ⟨a1, c1, hv1⟩ := rw_slice hR
    rw [hv1]
    have hnl := ns_len S.D.files
    refine lp tab_ok (fun j : Nat => j ≤ S.D.files.length) (fun j => ⟨[(7, ptr bd), (12, ptr x.1), (77, .slice a1 S.D.files.length c1), (78, .int .i64 S.D.files.length), (79, .int .i64 j)], [rs (dkR S1), rs (dkR S2), se r (txtCells (nsF S.D.files)) 9], []⟩) (fun j => S.D.files.length - j)
      0 (Nat.zero_le _) ⟨⟨rfl, rfl, rfl, rfl, rfl, trivial⟩, .cons (.drop (.cons (.drop (.drop (.cons .nil))))), rfl⟩ ?_
    intro j hj
    refine cd (fun h => ?_) (fun h => ?_)
    · have hjl : j < S.D.files.length := by omega
      have hjn : j < (nsF S.D.files).length := by omega
      obtain ⟨f, hfm, hfn, hfind⟩ := ns_at hN hjn
      have htx : ∀ (jk : List Value) (i' : Nat) (h' : i' < (nsF S.D.files).length), ((txtCells (nsF S.D.files) ++ jk).toArray)[i']? = some (VS (nsF S.D.files)[i']) := fun jk i' h' => txt_at h'
      have hfz := hc.f.z f hfm
      have hfl2 := fe_len hc.f hfm
      have hus := hf.us
      have hrd2 : readD S2.D (nsF S.D.files)[j] = (f.bs, 0) := by rw [hD2, read_crash _ hfind, crash_all hfz (by omega)]
      have hrd1 : readD S1.D (nsF S.D.files)[j] = ((crashF keep f).bs, 0) := by rw [hD1, read_crash _ hfind]
      have hfi1 : findF (nsF S.D.files)[j] S1.D.files = some (crashF keep f) := by rw [hD1]; show findF _ (S.D.files.map (crashF keep)) = _; rw [find_crash, hfind]; rfl
      generalize hnm : (nsF S.D.files)[j] = nm at *
      obtain ⟨k, hk⟩ : ∃ k, k = f.sure + min keep.toNat (f.bs.length - f.sure) := ⟨_, rfl⟩
      have hkl : k ≤ f.bs.length := by omega
      have hcr : crashF keep f = ⟨f.name, f.bs.take k, k⟩ := by unfold crashF; rw [← hk]
      rw [hcr] at hrd1 hfi1
      have htl : (f.bs.take k).length = k := by rw [List.length_take, Nat.min_eq_left hkl]
      have hv1' := hv1
      rcases r with _ | ⟨rb, rc, jk⟩
      · exact absurd hR.2 (by omega)
      · injection hv1' with e1 e2 e3
        subst e1
        refine ⟨by omega, by omega, ?_⟩
        refine ld1 2 rfl (v := VS nm) (by rw [nad_eq, nmu_eq, Int.toNat_natCast, Nat.zero_add, Nat.mul_one]; exact (htx jk j hjn).trans (by rw [hnm])) ?_
        refine coV (n := f.bs.length) (z := 1) (xs := Lib.byteCells f.bs) (e := 5) (fun v => .tuple #[v, .nilIface]) (fun w1 hs => by have := read_any S2 nm w1 (hs.res (k := 1) rfl); rw [hrd2, hb2] at this; exact this) (fun r3 hR3 => ?_)
        obtain ⟨a3, c3, hv3⟩ := rw_slice hR3
        rw [hv3]
        obtain ⟨hsp3, hc3⟩ := rw_slice2 hR3 hv3
        refine coV (n := k) (z := 1) (xs := Lib.byteCells (f.bs.take k)) (e := 5) (fun v => .tuple #[v, .nilIface]) (fun w1 hs => by have := read_any S1 nm w1 (hs.res (k := 0) rfl); rw [hrd1, hb1] at this; simp only [htl] at this; exact this) (fun r4 hR4 => ?_)
        obtain ⟨a4, c4, hv4⟩ := rw_slice hR4
        rw [hv4]
        have p1 : decide (((k : Nat) : Int) > (f.bs.length : Nat)) = false := decide_eq_false (by omega)
        have p2 : (decide (((k : Nat) : Int) > (f.bs.length : Nat)) == false) = true := by rw [p1]; rfl
        have q1 : (!((ByteArray.mk (f.bs.take k).toArray).toList == (ByteArray.mk (f.bs.take k).toArray).toList)) = false := by simp
        have q2 : ((!((ByteArray.mk (f.bs.take k).toArray).toList == (ByteArray.mk (f.bs.take k).toArray).toList)) == false) = true := by rw [q1]; rfl
        refine dr [rs (dkR S1)] 99 (.t 0 (.t 1 (.t 2 (.t 3 (.t 4 (.t 5 (.t 6 (.t 7 (.t 8 (.t 9 (.t 10 (.t 11 (.t 12 (.t 13 (.t 14 (.t 15 (.t 16 (.t 17 (.t 19 (.b 18 20 (.n 20 (.t 21 (.t 22 (.t 23 (.t 24 (.t 25 (.t 26 (.t 27 (.t 28 (.t 29 (.t 30 .nil))))))))))) (.n 18 (.t 21 (.t 22 (.t 23 (.t 24 (.t 25 (.t 26 (.t 27 (.t 28 (.t 29 (.t 30 .nil))))))))))))))))))))))))))))))) tab_ok mixed_ok (by kernel_rfl) (.cons .nil) ?_
        iterate 2 refine ct rfl ?_
        refine cf rfl ?_
        iterate 5 refine ct rfl ?_
        refine cf rfl ?_
        iterate 4 refine ct p2 ?_
        refine slTo hsp3 hkl hc3 ?_
        refine ct p2 ?_
        refine ⟨?_, ?_⟩
        · skip
          refine ct p2 ?_
          refine semV (fun w1 hs => rd_str (l := f.bs.take k) (Rd.cap (RdR.cut (k := k) (by have := RdR.own hs 3 rfl hR3; rwa [hv3] at this) hkl).1.rd)) ?_
          refine ⟨.cons .nil, ?_⟩
          refine ct p2 ?_
          refine semV (fun w1 hs => rd_str (l := f.bs.take k) (by have := Rd.own hs 4 rfl hR4; rwa [hv4] at this)) ?_
          refine ⟨.cons .nil, ?_⟩
          refine ct p2 ?_
          refine cf p1 ?_
          iterate 3 refine ct q2 ?_
          refine czs (v := .int .i64 k) (fun w1 hs => by have := sure_any S1 nm w1 (hs.res (k := 0) rfl); rw [hb1, hfi1] at this; exact this) ?_
          iterate 3 refine ct q2 ?_
          refine cf q1 ?_
          refine cf (by simp) ?_
          refine .as ((j + 1 : Nat) : Int) (by simp) (by simp only [mn]; omega) (by simp only [mx]; omega) ?_
          exact ⟨j + 1, by omega, by omega, ⟨⟨rfl, rfl, rfl, rfl, rfl, trivial⟩, .cons (.cons (.cons .nil)), rfl⟩⟩
        · skip
          refine ct p2 ?_
          refine semV (fun w1 hs => rd_str (l := f.bs.take k) (by have := Rd.own hs 4 rfl hR4; rwa [hv4] at this)) ?_
          refine ⟨.cons .nil, ?_⟩
          refine ct p2 ?_
          refine semV (fun w1 hs => rd_str (l := f.bs.take k) (Rd.cap (RdR.cut (k := k) (by have := RdR.own hs 3 rfl hR3; rwa [hv3] at this) hkl).1.rd)) ?_
          refine ⟨.cons .nil, ?_⟩
          refine ct p2 ?_
          refine cf p1 ?_
          iterate 3 refine ct q2 ?_
          refine czs (v := .int .i64 k) (fun w1 hs => by have := sure_any S1 nm w1 (hs.res (k := 0) rfl); rw [hb1, hfi1] at this; exact this) ?_
          iterate 3 refine ct q2 ?_
          refine cf q1 ?_
          refine cf (by simp) ?_
          refine .as ((j + 1 : Nat) : Int) (by simp) (by simp only [mn]; omega) (by simp only [mx]; omega) ?_
          exact ⟨j + 1, by omega, by omega, ⟨⟨rfl, rfl, rfl, rfl, rfl, trivial⟩, .cons (.cons (.cons .nil)), rfl⟩⟩
    · exact rt rfl
end Go.Proofs.Ytdgkaboaapfnmaa
