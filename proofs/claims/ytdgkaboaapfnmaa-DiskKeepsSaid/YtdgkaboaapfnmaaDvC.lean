/- The law DiskPlays: the walk. -/
import Derived.Test.YtdgkaboaapfnmaaDvB
import Derived.Test.YtdgkaboaapfnmaaDlA
namespace Go.Proofs.Ytdgkaboaapfnmaa
open Go.RowKit Go.Sx
set_option linter.unusedVariables false

/-- both disks, new -/
def two0 (q : Nat) (x : Nat × Nat) : Two := ⟨dk0 q x.1 x.2, ⟨0, 0, false, false, q, []⟩, .slice none 0 0, fun _ => False⟩
theorem two0_p {q : Nat} {x : Nat × Nat} {w : World} (h : DkP (dk0 q x.1 x.2) w) : TwoP (two0 q x) w := ⟨h, RFs.nil _ _ _ _, fun _ h => h.elim⟩
/-- a new disk, and the reference's -/
theorem new_two {w : World} (q : Nat) (hq : q ≤ 16777216) : Calls Try.prog 11 ([.int .i64 q] : List Value).toArray w fun e w' => ∃ x : Nat × Nat, True ∧ e = .returned (.tuple #[ptr x.1, .nilIface]) ∧ Below w.heap.size w w' ∧ (twoR (two0 q x)).p w' ∧ (∀ k, (twoR (two0 q x)).w k → w.heap.size ≤ k) ∧ ∀ k, (twoR (two0 q x)).r k → False :=
  (new_any q hq w).mono fun e w' ⟨x, h0, h1, h2, h3, h4, h5⟩ => ⟨x, h0, h1, h2, two0_p h3, h4, fun k hk => hk.elim (fun h => h5 k h) id⟩
/-- how both disks stand, behind so many acts -/
structure Plays (q k bd : Nat) (T : Two) : Prop where
  e : Eqv T.S.D T.M
  d : Cnt q k T.S.D
  m : Cnt q k T.M
  b : T.S.bd = bd
  v : ∃ a n c, T.fv = .slice a n c
theorem plays0 (q bd bm : Nat) : Plays q 0 bd (two0 q (bd, bm)) := ⟨⟨rfl, rfl, rfl, rfl, rfl, PS.refl rise_nil⟩, Cnt.zero q 0, Cnt.zero q 0, rfl, none, 0, 0, rfl⟩
theorem same_eqv {D M : Dk} (h : Eqv D M) (o : Opn) : sameD D M o = true := by
  unfold sameD
  split
  · rfl
  · rw [h.read]; simp
theorem Plays.next {q k bd : Nat} {T T' : Two} {o : Opn} (h : Plays q k bd T) (hd : DoP T o T') (hb : o.b.length ≤ 300) (hn : o.n ≤ 9223372036854775807) : Plays q (k + 1) bd T' :=
  ⟨by rw [hd.d, hd.m]; exact (h.e.act1 o).2, by rw [hd.d]; exact h.d.doD o hb hn, by rw [hd.m]; exact h.m.doM h.e.f.s o hb hn, hd.bd.trans h.b, hd.fv⟩
/-- an act of a script is done -/
theorem do_act {B w1 : World} {L : List Ent} {T : Two} {i : Nat} {a : Option Addr} {o : Opn} {bv : Value} (hs : St [] B w1 L) (j : Nat) (hL : L[j]? = some (rs (twoR T))) (hD : Fits T.S.D) (hM : Fits T.M) (hact : ActAt B a i (o, bv)) (h1 : o.b.length ≤ 300) (h2 : o.name.length ≤ 200) (h3 : o.to.length ≤ 200) :
    Calls Try.prog 15 ([ptr T.S.bd, .agg (rdC T.M T.fv), .agg #[.int .i64 o.kind, VS o.name, VS o.to, .int .i64 o.n, bv]] : List Value).toArray w1 (DoR T o w1) := by
  refine do_any T o bv (fun k => k < B.heap.size) w1 (hs.res hL) hD hM ⟨by omega, by omega, by omega, hact.n⟩ ((RdB.of hact.bs).same fun k hk => hs.below.block k hk) (fun k hk => ⟨Nat.lt_of_lt_of_le hk hs.size, ?_, ?_⟩)
  · have := hs.ownW _ (List.mem_of_getElem? hL) T.S.bd ((rsW _ _).2 (.inl rfl))
    simp only [inM_nil, or_false] at this; omega
  · have := hs.ownW _ (List.mem_of_getElem? hL) T.S.bm ((rsW _ _).2 (.inr rfl))
    simp only [inM_nil, or_false] at this; omega
set_option maxRecDepth 100000 in
set_option maxHeartbeats 4000000 in
theorem law_plays (z : Int) (hz : -9223372036854775808 ≤ z ∧ z ≤ 9223372036854775807) (v : Value) (n : Nat) (O : Nat → Opn × Value) (w : World) (hS : Scr w v n O) : Calls Try.prog 4 ([.int .i64 z, v] : List Value).toArray w fun e w' => e = .returned (.bool true) ∧ Below w.heap.size w w' := by
  have hbig := large_any v n O
  have hS0 := hS
  obtain ⟨hn, a, c, rfl, hS⟩ := hS
  refine enterV tab_ok Try.func4 rfl Try.ntmps4 rfl (St.start w) ?_
  refine cv alive_any ?_
  refine cf rfl ?_
  refine cvs (fun w1 hs => hbig w1 ⟨hn, a, c, rfl, fun i hi => (hS i hi).below hs.below⟩) ?_
  cases hb : bigS O n with
  | true =>
    refine ct rfl ?_
    exact rt rfl
  | false =>
  refine cf rfl ?_
  obtain ⟨hn81, hsmall⟩ := bigS_no hb
  by_cases hq : z < 0 ∨ 16777216 < z
  · refine cv (new_bad z hq hz) ?_
    by_cases h0 : z < 0
    · have d1 := decide_eq_true h0
      have d2 : (decide (z < 0) == false) = false := by rw [d1]; rfl
      iterate 2 refine cf d2 ?_
      refine ct d1 ?_
      refine ct rfl ?_
      refine cv (is_any 2 2) ?_
      exact rt rfl
    · have d1 := decide_eq_false h0
      have d2 : (decide (z < 0) == false) = true := by rw [d1]; rfl
      iterate 2 refine ct d2 ?_
      refine cf d1 ?_
      refine ct (decide_eq_true (by omega)) ?_
      refine cv (is_any 2 2) ?_
      exact rt rfl
  · obtain ⟨q, rfl⟩ : ∃ q : Nat, z = q := ⟨z.toNat, by omega⟩
    have hq' : q ≤ 16777216 := by omega
    refine cM (α := Nat × Nat) (Φ := fun _ => True) (v := fun x => .tuple #[ptr x.1, .nilIface]) (r' := fun x => twoR (two0 q x)) (fun w1 hs => (new_two q hq').mono fun e w' ⟨x, h0, h1, h2, h3, h4, h5⟩ => ⟨x, h0, h1, h2, h3, h4, fun k hk => (h5 k hk).elim⟩) (fun x _ => ?_)
    obtain ⟨bd, bm⟩ := x
    have d1 := decide_eq_false (show ¬ ((q : Nat) : Int) < 0 by omega)
    have d2 : (decide (((q : Nat) : Int) < 0) == false) = true := by rw [d1]; rfl
    iterate 2 refine ct d2 ?_
    refine cf d1 ?_
    refine cf (decide_eq_false (by omega)) ?_
    iterate 2 refine ct rfl ?_
    iterate 2 refine cf rfl ?_
    refine bu (c := rdC ⟨0, 0, false, false, q, []⟩ (.slice none 0 0)) (by kernel_rfl) ?_
    intro b7
    refine sN 1 rfl rfl (rdC_one _ rfl) ?_ (by kernel_rfl)
    refine lp tab_ok (fun x : Nat × Two => x.1 ≤ n ∧ Plays q x.1 bd x.2) (fun x => ⟨[(5, ptr bd), (7, ptr b7), (39, .slice a n c), (40, .int .i64 n), (41, .int .i64 x.1)], [rs (twoR x.2), cl b7 (rdC x.2.M x.2.fv) TR], []⟩) (fun x => n - x.1)
      (0, two0 q (bd, bm)) ⟨Nat.zero_le _, plays0 q bd bm⟩ ⟨⟨rfl, rfl, rfl, rfl, rfl, trivial⟩, .cons (.cons .nil), rfl⟩ ?_
    rintro ⟨i, S, M, fv, rr⟩ ⟨hi, hp⟩
    simp only at hi hp
    obtain ⟨fa, fn, fc, hfv⟩ := hp.v
    simp only at hfv
    subst hfv
    have hpb : S.bd = bd := hp.b
    refine cd (fun h => ?_) (fun h => ?_)
    · have hil : i < n := by (try simp only at h); omega
      have hact := hS i hil
      obtain ⟨hs1, hs2, hs3⟩ := hsmall i hil
      obtain ⟨q, hq⟩ : ∃ q, q = O i := ⟨_, rfl⟩
      rw [← hq] at hact hs1 hs2 hs3
      obtain ⟨o, bv⟩ := q
      simp only at hs1 hs2 hs3
      have hact0 := hact
      obtain ⟨⟨blk, off, rfl, hblk, hc⟩, hrd, hnr, _⟩ := hact0
      obtain ⟨ba, bc, hbv⟩ : ∃ a c, bv = .slice a o.b.length c := by obtain ⟨a, c, e, _⟩ := hrd; exact ⟨a, c, by simpa [Lib.byteCells_length] using e⟩
      subst hbv
      simp only at hnr
      refine ⟨by omega, by (try simp only); omega, ?_⟩
      refine ldoN (d := #[.int .i64 o.kind, VS o.name, VS o.to, .int .i64 o.n, .slice ba o.b.length bc]) (fun j u hu => by rw [nad_eq, nmu_eq, Int.toNat_natCast]; exact hc j u hu) hblk rfl ?_
      intro b9
      refine sN 2 rfl rfl rfl ?_ (by kernel_rfl)
      refine ldN 1 rfl rfl ?_
      refine ldN 2 rfl rfl ?_
      obtain ⟨cd', hcd⟩ : ∃ c, c = (doM M o).2 := ⟨_, rfl⟩
      refine cT (α := Two) (Φ := fun T' => DoP ⟨S, M, .slice fa fn fc, rr⟩ o T') (v := fun T' => .tuple #[.agg (rdC T'.M T'.fv), .int .i64 cd', .int .i64 cd', .bool true]) (r' := twoR) 0 rfl (fun w1 hs => ?_) (fun T' hT' => ?_)
      · have := do_act (T := ⟨S, M, .slice fa fn fc, rr⟩) (o := o) (bv := .slice ba o.b.length bc) hs 0 rfl (hp.d.fits (by omega) hq') (hp.m.fits (by omega) hq') hact hs1 hs2 hs3
        unfold DoR doV at this
        simp only at this
        rw [hpb, same_eqv hp.e, (show (doD S.D o).2 = (doM M o).2 from (hp.e.act1 o).1), ← hcd] at this
        exact this
      have hp' := hp.next hT' hs1 hnr.2
      obtain ⟨S', M', fv', rr'⟩ := T'
      obtain ⟨fa', fn', fc', hfv'⟩ := hp'.v
      simp only at hfv'
      subst hfv'
      intro b10
      refine sN 3 rfl rfl (rdC_one M' rfl) ?_ (by kernel_rfl)
      refine ldN 3 rfl rfl ?_
      refine sN 1 rfl rfl (rdC_one M' rfl) ?_ (by kernel_rfl)
      have e1 : (((cd' : Nat) : Int) != (cd' : Nat)) = false := by simp
      have e2 : ((((cd' : Nat) : Int) != (cd' : Nat)) == false) = true := by rw [e1]; rfl
      iterate 2 refine ct e2 ?_
      refine cf e1 ?_
      iterate 2 refine ct rfl ?_
      refine ldN 1 rfl rfl ?_
      refine ct rfl ?_
      refine cvs (fun w1 hs => by
        have ht : TwoP ⟨S', M', .slice fa' fn' fc', rr'⟩ w1 := hs.res (k := 0) rfl
        have := stands_any S' M' (.slice fa' fn' fc') rr' hp'.e (hp'.d.fits (by omega) hq') (hp'.m.fits (by omega) hq') w1 ht.d ht.m (fun k hk => (ht.r k hk).1)
        rwa [(show S'.bd = bd from hp'.b)] at this) ?_
      refine ct rfl ?_
      refine cf rfl ?_
      refine cf rfl ?_
      refine .as ((i + 1 : Nat) : Int) (by simp) (by simp only [mn]; omega) (by simp only [mx]; omega) ?_
      exact ⟨(i + 1, ⟨S', M', .slice fa' fn' fc', rr'⟩), ⟨by (try simp only); omega, hp'⟩, by (try simp only); omega, ⟨⟨rfl, rfl, rfl, rfl, rfl, trivial⟩, .cons (.cons .nil), rfl⟩⟩
    · refine ldN 1 rfl rfl ?_
      refine cvs (fun w1 hs => by
        have ht : TwoP ⟨S, M, .slice fa fn fc, rr⟩ w1 := hs.res (k := 0) rfl
        have := stands_any S M (.slice fa fn fc) rr hp.e (hp.d.fits (by omega) hq') (hp.m.fits (by omega) hq') w1 ht.d ht.m (fun k hk => (ht.r k hk).1)
        rwa [hpb] at this) ?_
      exact rt rfl
end Go.Proofs.Ytdgkaboaapfnmaa
