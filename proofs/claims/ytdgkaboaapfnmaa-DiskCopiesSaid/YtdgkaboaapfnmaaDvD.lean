/- The law DiskCopies: the walk. -/
import Derived.Test.YtdgkaboaapfnmaaDvC
namespace Go.Proofs.Ytdgkaboaapfnmaa
open Go.RowKit Go.Sx
set_option linter.unusedVariables false

theorem plays_at {q k bd : Nat} {S : DkS} {M : Dk} {fv : Value} {rr : Nat → Prop} (h : Plays q k bd ⟨S, M, fv, rr⟩) (x : Nat × Nat) : Plays q k x.1 ⟨S.at x, M, fv, rr⟩ := ⟨h.e, h.d, h.m, rfl, h.v⟩
/-- a copy of a disk, beside it -/
theorem copy_two {B w1 : World} {L : List Ent} {S : DkS} {M : Dk} {fv : Value} {rr : Nat → Prop} (hs : St [] B w1 L) (j : Nat) (hL : L[j]? = some (rs (twoR ⟨S, M, fv, rr⟩))) : Calls Try.prog 21 ([ptr S.bd] : List Value).toArray w1 fun e w' => ∃ x : Nat × Nat, True ∧ e = .returned (ptr x.1) ∧ Below w1.heap.size w1 w' ∧ (twoR ⟨S.at x, M, fv, rr⟩).p w' ∧ (∀ k, (twoR ⟨S.at x, M, fv, rr⟩).w k → w1.heap.size ≤ k) ∧ ∀ k, (twoR ⟨S.at x, M, fv, rr⟩).r k → w1.heap.size ≤ k ∨ ∃ f ∈ L, f.A k ∧ ¬ f.W k := by
  have ht : TwoP ⟨S, M, fv, rr⟩ w1 := hs.res hL
  refine (copyd_any S w1 ht.d).mono fun e w' ⟨x, h0, h1, h2, h3, h4⟩ => ⟨x, h0, h1, h2, ⟨h3, ht.m.below h2 (fun k hk => (ht.r k hk).1), fun k hk => ?_⟩, h4, fun k hk => .inr ⟨_, List.mem_of_getElem? hL, (rsA _ _).2 (.inr hk), fun hw => ?_⟩⟩
  · have hk1 := (ht.r k hk).1
    refine ⟨Nat.lt_of_lt_of_le hk1 h2.size, fun e => ?_, fun e => ?_⟩
    · have := h4 k (.inl e); omega
    · have := h4 k (.inr e); omega
  · rcases (rsW _ _).1 hw with e | e
    · rcases hk with hk | hk
      · exact (ht.d.r k hk).2.1 e
      · exact (ht.r k hk).2.1 e
    · rcases hk with hk | hk
      · exact (ht.d.r k hk).2.2 e
      · exact (ht.r k hk).2.2 e
set_option maxRecDepth 100000 in
set_option maxHeartbeats 4000000 in
theorem law_copies (va vb : Value) (na nb : Nat) (Oa Ob : Nat → Opn × Value) (w : World) (hSa : Scr w va na Oa) (hSb : Scr w vb nb Ob) : Calls Try.prog 6 ([va, vb] : List Value).toArray w fun e w' => e = .returned (.bool true) ∧ Below w.heap.size w w' := by
  have hbiga := large_any va na Oa
  have hbigb := large_any vb nb Ob
  obtain ⟨hna, aa, ca, rfl, hSa⟩ := hSa
  obtain ⟨hnb, ab, cb, rfl, hSb⟩ := hSb
  refine enterV tab_ok Try.func6 rfl Try.ntmps6 rfl (St.start w) ?_
  refine cv alive_any ?_
  refine cf rfl ?_
  refine cvs (fun w1 hs => hbiga w1 ⟨hna, aa, ca, rfl, fun i hi => (hSa i hi).below hs.below⟩) ?_
  cases hba : bigS Oa na with
  | true =>
    iterate 2 refine cf rfl ?_
    iterate 2 refine ct rfl ?_
    exact rt rfl
  | false =>
  iterate 2 refine ct rfl ?_
  refine cvs (fun w1 hs => hbigb w1 ⟨hnb, ab, cb, rfl, fun i hi => (hSb i hi).below hs.below⟩) ?_
  refine cf rfl ?_
  cases hbb : bigS Ob nb with
  | true =>
    refine ct rfl ?_
    exact rt rfl
  | false =>
  refine cf rfl ?_
  obtain ⟨hna81, hsmalla⟩ := bigS_no hba
  obtain ⟨hnb81, hsmallb⟩ := bigS_no hbb
  have hq' : 2000 ≤ 16777216 := by decide
  refine cM (α := Nat × Nat) (Φ := fun _ => True) (v := fun x => .tuple #[ptr x.1, .nilIface]) (r' := fun x => twoR (two0 2000 x)) (fun w1 hs => (new_two 2000 hq').mono fun e w' ⟨x, h0, h1, h2, h3, h4, h5⟩ => ⟨x, h0, h1, h2, h3, h4, fun k hk => (h5 k hk).elim⟩) (fun x _ => ?_)
  obtain ⟨bd, bm⟩ := x
  refine cf rfl ?_
  refine bu (c := rdC ⟨0, 0, false, false, 2000, []⟩ (.slice none 0 0)) (by kernel_rfl) ?_
  intro b7
  refine sN 1 rfl rfl (rdC_one _ rfl) ?_ (by kernel_rfl)
  refine lp tab_ok (fun x : Nat × Two => x.1 ≤ na ∧ Plays 2000 x.1 bd x.2) (fun x => ⟨[(1, .slice ab nb cb), (5, ptr bd), (7, ptr b7), (29, .slice aa na ca), (30, .int .i64 na), (31, .int .i64 x.1)], [rs (twoR x.2), cl b7 (rdC x.2.M x.2.fv) TR], []⟩) (fun x => na - x.1)
    (0, two0 2000 (bd, bm)) ⟨Nat.zero_le _, plays0 2000 bd bm⟩ ⟨⟨rfl, rfl, rfl, rfl, rfl, rfl, trivial⟩, .cons (.cons .nil), rfl⟩ ?_
  rintro ⟨i, S, M, fv, rr⟩ ⟨hi, hp⟩
  simp only at hi hp
  obtain ⟨fa, fn, fc, hfv⟩ := hp.v
  simp only at hfv
  subst hfv
  have hpb : S.bd = bd := hp.b
  refine cd (fun h => ?_) (fun h => ?_)
  · have hil : i < na := by (try simp only at h); omega
    have hact := hSa i hil
    obtain ⟨hs1, hs2, hs3⟩ := hsmalla i hil
    obtain ⟨q, hq⟩ : ∃ q, q = Oa i := ⟨_, rfl⟩
    rw [← hq] at hact hs1 hs2 hs3
    obtain ⟨o, bv⟩ := q
    simp only at hs1 hs2 hs3
    have hact0 := hact
    obtain ⟨⟨blk, off, rfl, hblk, hc⟩, hrd, hnr, _⟩ := hact0
    obtain ⟨ba, bc, hbv⟩ : ∃ a c, bv = .slice a o.b.length c := by obtain ⟨a, c, e, _⟩ := hrd; exact ⟨a, c, by simpa [Lib.byteCells_length] using e⟩
    subst hbv
    simp only at hnr
    refine ⟨by omega, by (try simp only); omega, ?_⟩
    refine ldoN (d := #[.int .i64 o.kind, VS o.name, VS o.to, .int .i64 o.n, .slice ba o.b.length bc]) (fun j u hu => by rw [nad_eq, nmu_eq, Int.toNat_natCast]; exact hc j u hu) hblk rfl ?_
    intro b9
    refine sN 2 rfl rfl rfl ?_ (by kernel_rfl)
    refine ldN 1 rfl rfl ?_
    refine ldN 2 rfl rfl ?_
    obtain ⟨cd', hcd⟩ : ∃ c, c = (doM M o).2 := ⟨_, rfl⟩
    refine cT (α := Two) (Φ := fun T' => DoP ⟨S, M, .slice fa fn fc, rr⟩ o T') (v := fun T' => .tuple #[.agg (rdC T'.M T'.fv), .int .i64 cd', .int .i64 cd', .bool true]) (r' := twoR) 0 rfl (fun w1 hs => ?_) (fun T' hT' => ?_)
    · have := do_act (T := ⟨S, M, .slice fa fn fc, rr⟩) (o := o) (bv := .slice ba o.b.length bc) hs 0 rfl (hp.d.fits (by omega) hq') (hp.m.fits (by omega) hq') hact hs1 hs2 hs3
      unfold DoR doV at this
      simp only at this
      rw [hpb, same_eqv hp.e, (show (doD S.D o).2 = (doM M o).2 from (hp.e.act1 o).1), ← hcd] at this
      exact this
    have hp' := hp.next hT' hs1 hnr.2
    obtain ⟨S', M', fv', rr'⟩ := T'
    obtain ⟨fa', fn', fc', hfv'⟩ := hp'.v
    simp only at hfv'
    subst hfv'
    refine sN 1 rfl rfl (rdC_one M' rfl) ?_ (by kernel_rfl)
    refine .as ((i + 1 : Nat) : Int) (by simp) (by simp only [mn]; omega) (by simp only [mx]; omega) ?_
    exact ⟨(i + 1, ⟨S', M', .slice fa' fn' fc', rr'⟩), ⟨by (try simp only); omega, hp'⟩, by (try simp only); omega, ⟨⟨rfl, rfl, rfl, rfl, rfl, rfl, trivial⟩, .cons (.cons .nil), rfl⟩⟩
  · obtain rfl : i = na := by (try simp only at h); omega
    refine cM (α := Nat × Nat) (Φ := fun _ => True) (v := fun x => ptr x.1) (r' := fun x => twoR ⟨S.at x, M, .slice fa fn fc, rr⟩) (fun w1 hs => by have := copy_two hs 0 rfl; rwa [hpb] at this) (fun x _ => ?_)
    refine ldN 1 rfl rfl ?_
    intro b11
    refine sN 3 rfl rfl (rdC_one M rfl) ?_ (by kernel_rfl)
    obtain ⟨S0, hS0⟩ : ∃ S0, S0 = S := ⟨_, rfl⟩
    obtain ⟨M0, hM0⟩ : ∃ M0, M0 = M := ⟨_, rfl⟩
    obtain ⟨T0, hT0⟩ : ∃ T0 : Two, T0 = ⟨S, M, .slice fa fn fc, rr⟩ := ⟨_, rfl⟩
    have hp0 : Plays 2000 i bd T0 := by rw [hT0]; exact hp
    refine lp tab_ok (fun y : Nat × Two => y.1 ≤ nb ∧ Plays 2000 (i + y.1) x.1 y.2) (fun y => ⟨[(5, ptr bd), (7, ptr b7), (10, ptr x.1), (11, ptr b11), (48, .slice ab nb cb), (49, .int .i64 nb), (50, .int .i64 y.1)], [rs (twoR T0), cl b7 (rdC T0.M T0.fv) TR, rs (twoR y.2), cl b11 (rdC y.2.M y.2.fv) TR], []⟩) (fun y => nb - y.1)
      (0, ⟨S.at x, M, .slice fa fn fc, rr⟩) ⟨Nat.zero_le _, plays_at hp x⟩ ⟨⟨rfl, rfl, rfl, rfl, rfl, rfl, rfl, trivial⟩, by rw [hT0]; exact .cons (.cons (.cons (.cons .nil))), rfl⟩ ?_
    obtain ⟨k, hk⟩ : ∃ k, k = i := ⟨_, rfl⟩
    rw [← hk] at hp0 hna81 ⊢
    clear hp hpb hk hT0 hM0 hS0 h hi
    rintro ⟨i, S, M, fv, rr⟩ ⟨hi, hp⟩
    simp only at hi hp
    obtain ⟨fa, fn, fc, hfv⟩ := hp.v
    simp only at hfv
    subst hfv
    have hpb : S.bd = x.1 := hp.b
    refine cd (fun h => ?_) (fun h => ?_)
    · have hil : i < nb := by (try simp only at h); omega
      have hact := hSb i hil
      obtain ⟨hs1, hs2, hs3⟩ := hsmallb i hil
      obtain ⟨q, hq⟩ : ∃ q, q = Ob i := ⟨_, rfl⟩
      rw [← hq] at hact hs1 hs2 hs3
      obtain ⟨o, bv⟩ := q
      simp only at hs1 hs2 hs3
      have hact0 := hact
      obtain ⟨⟨blk, off, rfl, hblk, hc⟩, hrd, hnr, _⟩ := hact0
      obtain ⟨ba, bc, hbv⟩ : ∃ a c, bv = .slice a o.b.length c := by obtain ⟨a, c, e, _⟩ := hrd; exact ⟨a, c, by simpa [Lib.byteCells_length] using e⟩
      subst hbv
      simp only at hnr
      refine ⟨by omega, by (try simp only); omega, ?_⟩
      refine ldoN (d := #[.int .i64 o.kind, VS o.name, VS o.to, .int .i64 o.n, .slice ba o.b.length bc]) (fun j u hu => by rw [nad_eq, nmu_eq, Int.toNat_natCast]; exact hc j u hu) hblk rfl ?_
      intro b13
      refine sN 4 rfl rfl rfl ?_ (by kernel_rfl)
      refine ldN 3 rfl rfl ?_
      refine ldN 4 rfl rfl ?_
      obtain ⟨cd', hcd⟩ : ∃ c, c = (doM M o).2 := ⟨_, rfl⟩
      refine cT (α := Two) (Φ := fun T' => DoP ⟨S, M, .slice fa fn fc, rr⟩ o T') (v := fun T' => .tuple #[.agg (rdC T'.M T'.fv), .int .i64 cd', .int .i64 cd', .bool true]) (r' := twoR) 2 rfl (fun w1 hs => ?_) (fun T' hT' => ?_)
      · have := do_act (T := ⟨S, M, .slice fa fn fc, rr⟩) (o := o) (bv := .slice ba o.b.length bc) hs 2 rfl (hp.d.fits (by omega) hq') (hp.m.fits (by omega) hq') hact hs1 hs2 hs3
        unfold DoR doV at this
        simp only at this
        rw [hpb, same_eqv hp.e, (show (doD S.D o).2 = (doM M o).2 from (hp.e.act1 o).1), ← hcd] at this
        exact this
      have hp' := hp.next hT' hs1 hnr.2
      obtain ⟨S', M', fv', rr'⟩ := T'
      obtain ⟨fa', fn', fc', hfv'⟩ := hp'.v
      simp only at hfv'
      subst hfv'
      refine sN 3 rfl rfl (rdC_one M' rfl) ?_ (by kernel_rfl)
      refine .as ((i + 1 : Nat) : Int) (by simp) (by simp only [mn]; omega) (by simp only [mx]; omega) ?_
      exact ⟨(i + 1, ⟨S', M', .slice fa' fn' fc', rr'⟩), ⟨by (try simp only); omega, hp'⟩, by (try simp only); omega, ⟨⟨rfl, rfl, rfl, rfl, rfl, rfl, rfl, trivial⟩, .cons (.cons (.cons (.cons .nil))), rfl⟩⟩
    · refine ldN 1 rfl rfl ?_
      refine cvs (fun w1 hs => by
        have ht : TwoP T0 w1 := hs.res (k := 0) rfl
        have := stands_any T0.S T0.M T0.fv T0.rr hp0.e (hp0.d.fits (by omega) hq') (hp0.m.fits (by omega) hq') w1 ht.d ht.m (fun k hk => (ht.r k hk).1)
        rwa [hp0.b] at this) ?_
      iterate 2 refine ct rfl ?_
      refine ldN 3 rfl rfl ?_
      refine ct rfl ?_
      refine cvs (fun w1 hs => by
        have ht : TwoP ⟨S, M, .slice fa fn fc, rr⟩ w1 := hs.res (k := 2) rfl
        have := stands_any S M (.slice fa fn fc) rr hp.e (hp.d.fits (by omega) hq') (hp.m.fits (by omega) hq') w1 ht.d ht.m (fun k hk => (ht.r k hk).1)
        rwa [hpb] at this) ?_
      refine ct rfl ?_
      exact rt rfl
end Go.Proofs.Ytdgkaboaapfnmaa
