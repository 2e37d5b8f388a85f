/- Chapter 12: the reader: numbers. -/
import Derived.Test.YtpegkoklmhccjaaDoorJsA
namespace Go.Proofs.YtpegkoklmhccjaaDoor
open Go.RowKit Go.Sx
set_option linter.unusedVariables false
def isDig (c : UInt8) : Bool := decide (48 ≤ c.toNat) && decide (c.toNat ≤ 57)
def hd : Bs → Bool
  | [] => false
  | c :: _ => isDig c
section
variable {b : Nat} {s : Bs} {bad : Bool} {d : Int} {w : World}
theorem nil_ne : (!((ByteArray.mk ([] : Bs).toArray).toList == (ByteArray.mk #[]).toList)) = false := by simp
theorem digit_any (h : w.heap[b]? = some (.cells (rdC s bad d) TRd (0, 0))) : Calls Tryd.prog 70 ([pj b] : List Value).toArray w fun e w' => e = .returned (.bool (hd s)) ∧ Upd b (rdC s bad d) TRd w w' := by
  cases s with
  | nil =>
    refine enterU tab_ok Tryd.func70 rfl Tryd.ntmps70 rfl h ?_
    refine ld1 0 rfl (v := sj []) rfl ?_
    iterate 6 refine cf (by simp) ?_
    refine cf (by simp) ?_
    iterate 6 refine cf rfl ?_
    refine cf rfl ?_
    exact rtU rfl
  | cons c t =>
    have e : (!((ByteArray.mk (c :: t).toArray).toList == (ByteArray.mk #[]).toList)) = true := by rw [ne0]; rfl
    have e2 : ((!((ByteArray.mk (c :: t).toArray).toList == (ByteArray.mk #[]).toList)) == true) = true := by rw [e]; rfl
    have e3 : hd (c :: t) = (decide (48 ≤ c.toNat) && decide (c.toNat ≤ 57)) := rfl
    rw [e3]
    refine enterU tab_ok Tryd.func70 rfl Tryd.ntmps70 rfl h ?_
    refine ld1 0 rfl (v := sj (c :: t)) rfl ?_
    iterate 4 refine ct e2 ?_
    refine ld1 0 rfl (v := sj (c :: t)) rfl ?_
    refine ct e2 ?_
    refine chL 0 rfl rfl ?_
    refine ct e2 ?_
    refine ct e ?_
    by_cases h1 : 48 ≤ c.toNat
    · have f1 : decide ((c.toNat : Int) ≥ 48) = true := decide_eq_true (by omega)
      have f2 : (decide ((c.toNat : Int) ≥ 48) == true) = true := by rw [f1]; rfl
      iterate 4 refine ct f2 ?_
      refine ld1 0 rfl (v := sj (c :: t)) rfl ?_
      refine ct f2 ?_
      refine chL 0 rfl rfl ?_
      refine ct f2 ?_
      refine ct f1 ?_
      exact rtU (by rw [decide_eq_true h1, Bool.true_and]; exact congrArg Value.bool (decide_eq_decide.2 (by omega)))
    · have f1 : decide ((c.toNat : Int) ≥ 48) = false := decide_eq_false (by omega)
      have f2 : (decide ((c.toNat : Int) ≥ 48) == true) = false := by rw [f1]; rfl
      iterate 6 refine cf f2 ?_
      refine cf f1 ?_
      exact rtU (by rw [decide_eq_false h1]; rfl)
end
def MAXI : Nat := 9007199254740991
/-- figures, as the program reckons -/
def accD (n : Nat) (c : UInt8) : Nat := if n ≤ MAXI then 10 * n + (c.toNat - 48) else n
/-- figures' number -/
def valD (n : Nat) (c : UInt8) : Nat := 10 * n + (c.toNat - 48)
theorem valD_ge (l : Bs) : ∀ n, n ≤ l.foldl valD n := by
  induction l with
  | nil => intro n; exact Nat.le_refl _
  | cons c l ih => intro n; exact Nat.le_trans (by unfold valD; omega) (ih (valD n c))
theorem acc_val (l : Bs) : ∀ n, (l.foldl valD n ≤ MAXI → l.foldl accD n = l.foldl valD n) ∧ (MAXI < l.foldl valD n → MAXI < l.foldl accD n) := by
  induction l with
  | nil => intro n; exact ⟨fun _ => rfl, fun h => h⟩
  | cons c l ih =>
    intro n
    simp only [List.foldl_cons]
    by_cases h : n ≤ MAXI
    · have e : accD n c = valD n c := by unfold accD valD; rw [if_pos h]
      rw [e]; exact ih _
    · have e : accD n c = n := by unfold accD; rw [if_neg h]
      have e2 : ∀ l : Bs, l.foldl accD n = n := by
        intro l
        induction l with
        | nil => rfl
        | cons c l ih => rw [List.foldl_cons, show accD n c = n by unfold accD; rw [if_neg h]]; exact ih
      rw [e, e2]
      have h2 := valD_ge l (valD n c)
      have h3 : n ≤ valD n c := by unfold valD; omega
      exact ⟨fun h4 => by omega, fun _ => by omega⟩
theorem acc_le (l : Bs) (hl : l.all isDig = true) : ∀ n, n ≤ 10 * MAXI + 9 → l.foldl accD n ≤ 10 * MAXI + 9 := by
  induction l with
  | nil => intro n h; exact h
  | cons c l ih =>
    intro n h
    simp only [List.all_cons, Bool.and_eq_true] at hl
    refine ih hl.2 _ ?_
    have := hl.1
    simp only [isDig, Bool.and_eq_true, decide_eq_true_eq] at this
    unfold accD
    split <;> omega
/-- a number: its sign, its figures -/
def numQ (m : Bool) (s1 : Bs) : Option (Int × Bs) :=
  if s1.takeWhile isDig = [] ∨ MAXI < (s1.takeWhile isDig).foldl valD 0 ∨ ((s1.takeWhile isDig).head? = some 48 ∧ (1 < (s1.takeWhile isDig).length ∨ m = true)) then none
  else some (if m then -(((s1.takeWhile isDig).foldl valD 0 : Nat) : Int) else (((s1.takeWhile isDig).foldl valD 0 : Nat) : Int), s1.dropWhile isDig)
def numP (s : Bs) : Option (Int × Bs) := numQ (s.head? == some 45) (if (s.head? == some 45) = true then s.tail else s)
theorem span_dig (pre t s1 : Bs) (h1 : pre ++ t = s1) (h2 : pre.all isDig = true) (h3 : hd t = false) : s1.takeWhile isDig = pre ∧ s1.dropWhile isDig = t := by
  subst h1
  induction pre with
  | nil =>
    cases t with
    | nil => exact ⟨rfl, rfl⟩
    | cons c t => have h : isDig c = false := h3; simp [h]
  | cons c pre ih =>
    simp only [List.all_cons, Bool.and_eq_true] at h2
    obtain ⟨h4, h5⟩ := ih h2.2
    simp [h2.1, h4, h5]
/-- a value without parts, of a kind -/
abbrev valC (k i : Int) (s : Bs) : Array Value := #[.int .i64 k, .int .i64 i, sj s, .slice none 0 0, .slice none 0 0]
structure NumO where
  k : Int
  i : Int
  t : Bs
  bad : Bool
def NumF (s : Bs) (x : NumO) : Prop := x.t.length ≤ s.length ∧ (x.k = 0 ∨ x.k = 2) ∧ (-9223372036854775808 < x.i ∧ x.i < 9223372036854775808) ∧ ((x.bad = true ∧ numP s = none) ∨ (x.bad = false ∧ x.k = 2 ∧ numP s = some (x.i, x.t)))
section
variable {b : Nat} {s : Bs} {d : Int} {w : World}
set_option maxRecDepth 100000 in
set_option maxHeartbeats 4000000 in
theorem number_any (hne : s ≠ []) (hl : s.length ≤ 100000) (h : w.heap[b]? = some (.cells (rdC s false d) TRd (0, 0))) :
    Calls Tryd.prog 52 ([pj b] : List Value).toArray w fun e w' => ∃ x : NumO, NumF s x ∧ e = .returned (.agg (valC x.k x.i [])) ∧ Upd b (rdC x.t x.bad d) TRd w w' := by
  obtain ⟨c0, t0, hs⟩ : ∃ c0 t0, s = c0 :: t0 := by cases s with | nil => exact absurd rfl hne | cons c t => exact ⟨c, t, rfl⟩
  refine enterUx tab_ok Tryd.func52 rfl Tryd.ntmps52 rfl h ?_
  intro b2
  refine ld1 0 rfl (v := sj s) rfl ?_
  refine chL 0 rfl (c := c0) (by rw [hs]; rfl) ?_
  by_cases h45 : c0 = 45
  · have hb : ((c0.toNat : Int) == 45) = true := by rw [h45]; rfl
    have hm : true = (s.head? == some 45) := by rw [hs, h45]; rfl
    refine ct hb ?_
    refine ld1 0 rfl (v := sj s) rfl ?_
    refine slL 1 (by rw [hs]; simp) rfl ?_
    have hs1 : s.drop 1 = if true = true then s.tail else s := by rw [if_pos rfl, List.drop_one]
    have hsl : (s.drop 1).length ≤ s.length := by simp
    generalize s.drop 1 = s1 at hs1 hsl ⊢
    refine Sx.s1 0 rfl (by show 0 < 3; decide) ?_
    cases hh : hd s1 with
    | false =>
      have hnone : numP s = none := by unfold numP; rw [← hm, ← hs1]; unfold numQ; exact if_pos (.inl ((span_dig [] s1 s1 rfl rfl hh).1))
      refine cU1 0 rfl (fun w h => digit_any h) ?_
      refine ct (by rw [hh]; rfl) ?_
      refine cU1 0 rfl (fun w h => fail_any h) ?_
      refine bu (c := valC 0 0 []) rfl ?_
      refine sN 1 rfl rfl (by simp [Value.oneCell']) ?_ (by kernel_rfl)
      refine ldN 1 rfl rfl ?_
      exact rtUx (Φ := NumF s) (⟨0, 0, s1, true⟩ : NumO) ⟨hsl, .inl rfl, ⟨by dsimp only; omega, by dsimp only; omega⟩, .inl ⟨rfl, hnone⟩⟩ rfl
    | true =>
      refine cU1 0 rfl (fun w h => digit_any h) ?_
      refine cf (by rw [hh]; rfl) ?_
      obtain ⟨c1, t1, rfl⟩ : ∃ c1 t1, s1 = c1 :: t1 := by cases s1 with | nil => cases hh | cons c t => exact ⟨c, t, rfl⟩
      refine ld1 0 rfl (v := sj (c1 :: t1)) rfl ?_
      refine chL 0 rfl rfl ?_
      refine lpe tab_ok 0 (β := Bs × Bs) (fun x => x.1 ++ x.2 = c1 :: t1 ∧ x.1.all isDig = true ∧ hd x.2 = false) (fun x => ⟨[(0, pj b), (2, pj b2), (3, .bool ((c0.toNat : Int) == 45)), (4, .bool ((c1.toNat : Int) == 48)), (5, .int .i64 ((x.1.foldl accD 0 : Nat) : Int)), (6, .int .i64 ((x.1.length : Nat) : Int))], [cl b (rdC x.2 false d) TRd, cl b2 #[.int .i64 0, .int .i64 0, .string ⟨#[]⟩, .slice none 0 0, .slice none 0 0] 25], []⟩) (α := Bs × Bs) (fun x => x.1 ++ x.2 = c1 :: t1 ∧ x.1.all isDig = true) (fun x => ⟨[(0, pj b), (2, pj b2), (3, .bool ((c0.toNat : Int) == 45)), (4, .bool ((c1.toNat : Int) == 48)), (5, .int .i64 ((x.1.foldl accD 0 : Nat) : Int)), (6, .int .i64 ((x.1.length : Nat) : Int))], [cl b (rdC x.2 false d) TRd, cl b2 #[.int .i64 0, .int .i64 0, .string ⟨#[]⟩, .slice none 0 0, .slice none 0 0] 25], []⟩) (fun x => x.2.length) ([], c1 :: t1) ⟨rfl, rfl⟩ ⟨⟨rfl, rfl, rfl, rfl, rfl, rfl, trivial⟩, .cons (.cons .nil), rfl⟩ ?_ ?_
      · rintro ⟨pre, t⟩ ⟨h1, h2⟩
        dsimp only at h1 h2 ⊢
        have hpl : pre.length + t.length ≤ 100000 := by have := congrArg List.length h1; rw [List.length_append] at this; omega
        cases ht : hd t with
        | false =>
          refine cU1 0 rfl (fun w h => digit_any h) ?_
          refine cf ht ?_
          exact ⟨(pre, t), ⟨h1, h2, ht⟩, ⟨rfl, rfl, rfl, rfl, rfl, rfl, trivial⟩, .cons (.cons .nil), rfl⟩
        | true =>
          obtain ⟨c, t, rfl⟩ : ∃ c t', t = c :: t' := by cases t with | nil => cases ht | cons c t => exact ⟨c, t, rfl⟩
          have hc : isDig c = true := ht
          have hc2 := hc
          simp only [isDig, Bool.and_eq_true, decide_eq_true_eq] at hc2
          have hn := acc_le pre h2 0 (Nat.zero_le _)
          have hM : MAXI = 9007199254740991 := rfl
          have hacc : (pre ++ [c]).foldl accD 0 = accD (pre.foldl accD 0) c := by rw [List.foldl_append]; rfl
          have hall : (pre ++ [c]).all isDig = true := by rw [List.all_append, h2]; simp [hc]
          refine cU1 0 rfl (fun w h => digit_any h) ?_
          refine ct ht ?_
          have hgo : ∀ n : Nat, n = accD (pre.foldl accD 0) c → n = (pre ++ [c]).foldl accD 0 := fun n h => h.trans hacc.symm
          generalize hN : pre.foldl accD 0 = N at hn hgo hacc
          refine cd (fun hle => ?_) (fun hle => ?_)
          · refine .as ((10 * N : Nat) : Int) (by omega) (by simp only [mn]; omega) (by simp only [mx]; omega) ?_
            refine ld1 0 rfl (v := sj (c :: t)) rfl ?_
            refine chL 0 rfl rfl ?_
            refine .as ((c.toNat - 48 : Nat) : Int) (by omega) (by simp only [mn]; omega) (by simp only [mx]; omega) ?_
            refine .same (by simp only [mn]; omega) (by simp only [mx]; omega) ?_
            refine .as ((10 * N + (c.toNat - 48) : Nat) : Int) (by omega) (by simp only [mn]; omega) (by simp only [mx]; omega) ?_
            refine .as ((pre.length + 1 : Nat) : Int) (by omega) (by simp only [mn]; omega) (by simp only [mx]; omega) ?_
            refine ld1 0 rfl (v := sj (c :: t)) rfl ?_
            refine slL 1 (by simp) rfl ?_
            refine Sx.s1 0 rfl (by show 0 < 3; decide) ?_
            have e := hgo (10 * N + (c.toNat - 48)) (by unfold accD; rw [if_pos (by omega)])
            rw [e]
            exact ⟨(pre ++ [c], t), ⟨by simpa using h1, hall⟩, by simp, ⟨rfl, rfl, rfl, rfl, rfl, by rw [show (pre ++ [c]).length = pre.length + 1 by simp]; rfl, trivial⟩, .cons (.cons .nil), rfl⟩
          · refine .as ((pre.length + 1 : Nat) : Int) (by omega) (by simp only [mn]; omega) (by simp only [mx]; omega) ?_
            refine ld1 0 rfl (v := sj (c :: t)) rfl ?_
            refine slL 1 (by simp) rfl ?_
            refine Sx.s1 0 rfl (by show 0 < 3; decide) ?_
            have e := hgo N (by unfold accD; rw [if_neg (by omega)])
            rw [e]
            exact ⟨(pre ++ [c], t), ⟨by simpa using h1, hall⟩, by simp, ⟨rfl, rfl, rfl, rfl, rfl, by rw [show (pre ++ [c]).length = pre.length + 1 by simp]; rfl, trivial⟩, .cons (.cons .nil), rfl⟩
      · rintro ⟨pre, t⟩ ⟨h1, h2, h3⟩
        dsimp only at h1 h2 h3 ⊢
        obtain ⟨e1, e2⟩ := span_dig pre t _ h1 h2 h3
        have htl : t.length ≤ s.length := by have := congrArg List.length h1; rw [List.length_append] at this; omega
        have hn := acc_le pre h2 0 (Nat.zero_le _)
        have hM : MAXI = 9007199254740991 := rfl
        obtain ⟨hv1, hv2⟩ := acc_val pre 0
        have hpl : pre.length ≤ 100000 := by have := congrArg List.length h1; rw [List.length_append] at this; omega
        obtain ⟨p1, rfl⟩ : ∃ p1, pre = c1 :: p1 := by
          cases pre with
          | nil => simp at h1; subst h1; rw [hh] at h3; cases h3
          | cons x p => simp at h1; exact ⟨p, by rw [h1.1]⟩
        have hnum : numP s = if MAXI < (c1 :: p1).foldl valD 0 ∨ (c1 = 48 ∧ (1 < (c1 :: p1).length ∨ true = true)) then none else some (if true then -(((c1 :: p1).foldl valD 0 : Nat) : Int) else (((c1 :: p1).foldl valD 0 : Nat) : Int), t) := by
          unfold numP; rw [← hm, ← hs1]; unfold numQ; rw [e1, e2]; simp
        have fbad : ∀ k : Int, k = 2 → ∀ v : Int, (-9223372036854775808 < v ∧ v < 9223372036854775808) → (MAXI < (c1 :: p1).foldl valD 0 ∨ (c1 = 48 ∧ (1 < (c1 :: p1).length ∨ true = true))) → NumF s ⟨k, v, t, true⟩ := fun k hk v hv h => ⟨htl, .inr hk, hv, .inl ⟨rfl, by rw [hnum, if_pos h]⟩⟩
        have fok : ¬ (MAXI < (c1 :: p1).foldl valD 0 ∨ (c1 = 48 ∧ (1 < (c1 :: p1).length ∨ true = true))) → NumF s ⟨2, if true then -(((c1 :: p1).foldl accD 0 : Nat) : Int) else (((c1 :: p1).foldl accD 0 : Nat) : Int), t, false⟩ := fun h => ⟨htl, .inr rfl, by dsimp only; split <;> omega, .inr ⟨rfl, rfl, by rw [hnum, if_neg h, hv1 (Nat.le_of_not_lt fun h' => h (.inl h'))]⟩⟩
        generalize hpre : c1 :: p1 = pre at *
        by_cases hA : MAXI < pre.foldl accD 0
        · have f1 : decide (((pre.foldl accD 0 : Nat) : Int) > 9007199254740991) = true := decide_eq_true (by omega)
          have f2 : (decide (((pre.foldl accD 0 : Nat) : Int) > 9007199254740991) == false) = false := by rw [f1]; rfl
          have hbig : MAXI < pre.foldl valD 0 := Nat.lt_of_not_le fun h => by rw [hv1 h] at hA; omega
          iterate 3 refine cf f2 ?_
          refine ct f1 ?_
          refine ct rfl ?_
          refine cU1 0 rfl (fun w h => fail_any h) ?_
          refine ct hb ?_
          refine .as (-((pre.foldl accD 0 : Nat) : Int)) (by omega) (by simp only [mn]; omega) (by simp only [mx]; omega) ?_
          refine bu (c := valC 2 (-((pre.foldl accD 0 : Nat) : Int)) []) rfl ?_
          refine sN 1 rfl rfl (by simp [Value.oneCell']) ?_ (by kernel_rfl)
          refine ldN 1 rfl rfl ?_
          exact rtUx (Φ := NumF s) (⟨2, -((pre.foldl accD 0 : Nat) : Int), t, true⟩ : NumO) (fbad _ rfl _ (by omega) (.inl hbig)) rfl
        · have f1 : decide (((pre.foldl accD 0 : Nat) : Int) > 9007199254740991) = false := decide_eq_false (by omega)
          have f2 : (decide (((pre.foldl accD 0 : Nat) : Int) > 9007199254740991) == false) = true := by rw [f1]; rfl
          have hsm : ¬ MAXI < pre.foldl valD 0 := fun h => hA (hv2 h)
          iterate 2 refine ct f2 ?_
          by_cases hz : c1 = 48
          · have z1 : ((c1.toNat : Int) == 48) = true := by rw [hz]; rfl
            have z2 : (((c1.toNat : Int) == 48) == true) = true := by rw [z1]; rfl
            iterate 3 refine ct z2 ?_
            by_cases hf : 1 < pre.length
            · have g1 : decide (((pre.length : Nat) : Int) > 1) = true := decide_eq_true (by omega)
              refine cf (by rw [g1]; rfl) ?_
              refine ct z2 ?_
              refine ct g1 ?_
              refine ct f2 ?_
              refine ct z1 ?_
              refine cf f1 ?_
              refine ct rfl ?_
              refine cU1 0 rfl (fun w h => fail_any h) ?_
              refine ct hb ?_
              refine .as (-((pre.foldl accD 0 : Nat) : Int)) (by omega) (by simp only [mn]; omega) (by simp only [mx]; omega) ?_
              refine bu (c := valC 2 (-((pre.foldl accD 0 : Nat) : Int)) []) rfl ?_
              refine sN 1 rfl rfl (by simp [Value.oneCell']) ?_ (by kernel_rfl)
              refine ldN 1 rfl rfl ?_
              exact rtUx (Φ := NumF s) (⟨2, -((pre.foldl accD 0 : Nat) : Int), t, true⟩ : NumO) (fbad _ rfl _ (by omega) (.inr ⟨hz, .inl hf⟩)) rfl
            · have g1 : decide (((pre.length : Nat) : Int) > 1) = false := decide_eq_false (by omega)
              refine ct (by rw [g1]; rfl) ?_
              refine ct z2 ?_
              refine cf g1 ?_
              refine ct f2 ?_
              refine ct z1 ?_
              refine cf f1 ?_
              refine ct hb ?_
              refine cU1 0 rfl (fun w h => fail_any h) ?_
              refine ct hb ?_
              refine .as (-((pre.foldl accD 0 : Nat) : Int)) (by omega) (by simp only [mn]; omega) (by simp only [mx]; omega) ?_
              refine bu (c := valC 2 (-((pre.foldl accD 0 : Nat) : Int)) []) rfl ?_
              refine sN 1 rfl rfl (by simp [Value.oneCell']) ?_ (by kernel_rfl)
              refine ldN 1 rfl rfl ?_
              exact rtUx (Φ := NumF s) (⟨2, -((pre.foldl accD 0 : Nat) : Int), t, true⟩ : NumO) (fbad _ rfl _ (by omega) (.inr ⟨hz, .inr rfl⟩)) rfl
          · have z1 : ((c1.toNat : Int) == 48) = false := by
              rw [beq_eq_false_iff_ne]; intro h; exact hz (UInt8.toNat_inj.1 (by show c1.toNat = 48; omega))
            have z2 : (((c1.toNat : Int) == 48) == true) = false := by rw [z1]; rfl
            iterate 4 refine cf z2 ?_
            refine ct f2 ?_
            refine cf z1 ?_
            refine cf f1 ?_
            refine cf rfl ?_
            refine ct hb ?_
            refine .as (-((pre.foldl accD 0 : Nat) : Int)) (by omega) (by simp only [mn]; omega) (by simp only [mx]; omega) ?_
            refine bu (c := valC 2 (-((pre.foldl accD 0 : Nat) : Int)) []) rfl ?_
            refine sN 1 rfl rfl (by simp [Value.oneCell']) ?_ (by kernel_rfl)
            refine ldN 1 rfl rfl ?_
            exact rtUx (Φ := NumF s) (⟨2, -((pre.foldl accD 0 : Nat) : Int), t, false⟩ : NumO) (fok (by rintro (h | ⟨h, _⟩); exact hsm h; exact hz h)) rfl
  · have hb : ((c0.toNat : Int) == 45) = false := by rw [beq_eq_false_iff_ne]; intro h; exact h45 (UInt8.toNat_inj.1 (by show c0.toNat = 45; omega))
    have hm : false = (s.head? == some 45) := by rw [hs]; symm; rw [List.head?_cons, beq_eq_false_iff_ne]; intro h; exact h45 (Option.some.inj h)
    refine cf hb ?_
    obtain ⟨s1, hs1e⟩ : ∃ s1, s1 = s := ⟨_, rfl⟩
    have hs1 : s1 = if false = true then s.tail else s := by rw [hs1e, if_neg (by decide)]
    have hsl : s1.length ≤ s.length := by rw [hs1e]; exact Nat.le_refl _
    rw [show (rdC s false d) = rdC s1 false d by rw [hs1e]]
    clear hs1e
    cases hh : hd s1 with
    | false =>
      have hnone : numP s = none := by unfold numP; rw [← hm, ← hs1]; unfold numQ; exact if_pos (.inl ((span_dig [] s1 s1 rfl rfl hh).1))
      refine cU1 0 rfl (fun w h => digit_any h) ?_
      refine ct (by rw [hh]; rfl) ?_
      refine cU1 0 rfl (fun w h => fail_any h) ?_
      refine bu (c := valC 0 0 []) rfl ?_
      refine sN 1 rfl rfl (by simp [Value.oneCell']) ?_ (by kernel_rfl)
      refine ldN 1 rfl rfl ?_
      exact rtUx (Φ := NumF s) (⟨0, 0, s1, true⟩ : NumO) ⟨hsl, .inl rfl, ⟨by dsimp only; omega, by dsimp only; omega⟩, .inl ⟨rfl, hnone⟩⟩ rfl
    | true =>
      refine cU1 0 rfl (fun w h => digit_any h) ?_
      refine cf (by rw [hh]; rfl) ?_
      obtain ⟨c1, t1, rfl⟩ : ∃ c1 t1, s1 = c1 :: t1 := by cases s1 with | nil => cases hh | cons c t => exact ⟨c, t, rfl⟩
      refine ld1 0 rfl (v := sj (c1 :: t1)) rfl ?_
      refine chL 0 rfl rfl ?_
      refine lpe tab_ok 0 (β := Bs × Bs) (fun x => x.1 ++ x.2 = c1 :: t1 ∧ x.1.all isDig = true ∧ hd x.2 = false) (fun x => ⟨[(0, pj b), (2, pj b2), (3, .bool ((c0.toNat : Int) == 45)), (4, .bool ((c1.toNat : Int) == 48)), (5, .int .i64 ((x.1.foldl accD 0 : Nat) : Int)), (6, .int .i64 ((x.1.length : Nat) : Int))], [cl b (rdC x.2 false d) TRd, cl b2 #[.int .i64 0, .int .i64 0, .string ⟨#[]⟩, .slice none 0 0, .slice none 0 0] 25], []⟩) (α := Bs × Bs) (fun x => x.1 ++ x.2 = c1 :: t1 ∧ x.1.all isDig = true) (fun x => ⟨[(0, pj b), (2, pj b2), (3, .bool ((c0.toNat : Int) == 45)), (4, .bool ((c1.toNat : Int) == 48)), (5, .int .i64 ((x.1.foldl accD 0 : Nat) : Int)), (6, .int .i64 ((x.1.length : Nat) : Int))], [cl b (rdC x.2 false d) TRd, cl b2 #[.int .i64 0, .int .i64 0, .string ⟨#[]⟩, .slice none 0 0, .slice none 0 0] 25], []⟩) (fun x => x.2.length) ([], c1 :: t1) ⟨rfl, rfl⟩ ⟨⟨rfl, rfl, rfl, rfl, rfl, rfl, trivial⟩, .cons (.cons .nil), rfl⟩ ?_ ?_
      · rintro ⟨pre, t⟩ ⟨h1, h2⟩
        dsimp only at h1 h2 ⊢
        have hpl : pre.length + t.length ≤ 100000 := by have := congrArg List.length h1; rw [List.length_append] at this; omega
        cases ht : hd t with
        | false =>
          refine cU1 0 rfl (fun w h => digit_any h) ?_
          refine cf ht ?_
          exact ⟨(pre, t), ⟨h1, h2, ht⟩, ⟨rfl, rfl, rfl, rfl, rfl, rfl, trivial⟩, .cons (.cons .nil), rfl⟩
        | true =>
          obtain ⟨c, t, rfl⟩ : ∃ c t', t = c :: t' := by cases t with | nil => cases ht | cons c t => exact ⟨c, t, rfl⟩
          have hc : isDig c = true := ht
          have hc2 := hc
          simp only [isDig, Bool.and_eq_true, decide_eq_true_eq] at hc2
          have hn := acc_le pre h2 0 (Nat.zero_le _)
          have hM : MAXI = 9007199254740991 := rfl
          have hacc : (pre ++ [c]).foldl accD 0 = accD (pre.foldl accD 0) c := by rw [List.foldl_append]; rfl
          have hall : (pre ++ [c]).all isDig = true := by rw [List.all_append, h2]; simp [hc]
          refine cU1 0 rfl (fun w h => digit_any h) ?_
          refine ct ht ?_
          have hgo : ∀ n : Nat, n = accD (pre.foldl accD 0) c → n = (pre ++ [c]).foldl accD 0 := fun n h => h.trans hacc.symm
          generalize hN : pre.foldl accD 0 = N at hn hgo hacc
          refine cd (fun hle => ?_) (fun hle => ?_)
          · refine .as ((10 * N : Nat) : Int) (by omega) (by simp only [mn]; omega) (by simp only [mx]; omega) ?_
            refine ld1 0 rfl (v := sj (c :: t)) rfl ?_
            refine chL 0 rfl rfl ?_
            refine .as ((c.toNat - 48 : Nat) : Int) (by omega) (by simp only [mn]; omega) (by simp only [mx]; omega) ?_
            refine .same (by simp only [mn]; omega) (by simp only [mx]; omega) ?_
            refine .as ((10 * N + (c.toNat - 48) : Nat) : Int) (by omega) (by simp only [mn]; omega) (by simp only [mx]; omega) ?_
            refine .as ((pre.length + 1 : Nat) : Int) (by omega) (by simp only [mn]; omega) (by simp only [mx]; omega) ?_
            refine ld1 0 rfl (v := sj (c :: t)) rfl ?_
            refine slL 1 (by simp) rfl ?_
            refine Sx.s1 0 rfl (by show 0 < 3; decide) ?_
            have e := hgo (10 * N + (c.toNat - 48)) (by unfold accD; rw [if_pos (by omega)])
            rw [e]
            exact ⟨(pre ++ [c], t), ⟨by simpa using h1, hall⟩, by simp, ⟨rfl, rfl, rfl, rfl, rfl, by rw [show (pre ++ [c]).length = pre.length + 1 by simp]; rfl, trivial⟩, .cons (.cons .nil), rfl⟩
          · refine .as ((pre.length + 1 : Nat) : Int) (by omega) (by simp only [mn]; omega) (by simp only [mx]; omega) ?_
            refine ld1 0 rfl (v := sj (c :: t)) rfl ?_
            refine slL 1 (by simp) rfl ?_
            refine Sx.s1 0 rfl (by show 0 < 3; decide) ?_
            have e := hgo N (by unfold accD; rw [if_neg (by omega)])
            rw [e]
            exact ⟨(pre ++ [c], t), ⟨by simpa using h1, hall⟩, by simp, ⟨rfl, rfl, rfl, rfl, rfl, by rw [show (pre ++ [c]).length = pre.length + 1 by simp]; rfl, trivial⟩, .cons (.cons .nil), rfl⟩
      · rintro ⟨pre, t⟩ ⟨h1, h2, h3⟩
        dsimp only at h1 h2 h3 ⊢
        obtain ⟨e1, e2⟩ := span_dig pre t _ h1 h2 h3
        have htl : t.length ≤ s.length := by have := congrArg List.length h1; rw [List.length_append] at this; omega
        have hn := acc_le pre h2 0 (Nat.zero_le _)
        have hM : MAXI = 9007199254740991 := rfl
        obtain ⟨hv1, hv2⟩ := acc_val pre 0
        have hpl : pre.length ≤ 100000 := by have := congrArg List.length h1; rw [List.length_append] at this; omega
        obtain ⟨p1, rfl⟩ : ∃ p1, pre = c1 :: p1 := by
          cases pre with
          | nil => simp at h1; subst h1; rw [hh] at h3; cases h3
          | cons x p => simp at h1; exact ⟨p, by rw [h1.1]⟩
        have hnum : numP s = if MAXI < (c1 :: p1).foldl valD 0 ∨ (c1 = 48 ∧ (1 < (c1 :: p1).length ∨ false = true)) then none else some (if false then -(((c1 :: p1).foldl valD 0 : Nat) : Int) else (((c1 :: p1).foldl valD 0 : Nat) : Int), t) := by
          unfold numP; rw [← hm, ← hs1]; unfold numQ; rw [e1, e2]; simp
        have fbad : ∀ k : Int, k = 2 → ∀ v : Int, (-9223372036854775808 < v ∧ v < 9223372036854775808) → (MAXI < (c1 :: p1).foldl valD 0 ∨ (c1 = 48 ∧ (1 < (c1 :: p1).length ∨ false = true))) → NumF s ⟨k, v, t, true⟩ := fun k hk v hv h => ⟨htl, .inr hk, hv, .inl ⟨rfl, by rw [hnum, if_pos h]⟩⟩
        have fok : ¬ (MAXI < (c1 :: p1).foldl valD 0 ∨ (c1 = 48 ∧ (1 < (c1 :: p1).length ∨ false = true))) → NumF s ⟨2, if false then -(((c1 :: p1).foldl accD 0 : Nat) : Int) else (((c1 :: p1).foldl accD 0 : Nat) : Int), t, false⟩ := fun h => ⟨htl, .inr rfl, by dsimp only; split <;> omega, .inr ⟨rfl, rfl, by rw [hnum, if_neg h, hv1 (Nat.le_of_not_lt fun h' => h (.inl h'))]⟩⟩
        generalize hpre : c1 :: p1 = pre at *
        by_cases hA : MAXI < pre.foldl accD 0
        · have f1 : decide (((pre.foldl accD 0 : Nat) : Int) > 9007199254740991) = true := decide_eq_true (by omega)
          have f2 : (decide (((pre.foldl accD 0 : Nat) : Int) > 9007199254740991) == false) = false := by rw [f1]; rfl
          have hbig : MAXI < pre.foldl valD 0 := Nat.lt_of_not_le fun h => by rw [hv1 h] at hA; omega
          iterate 3 refine cf f2 ?_
          refine ct f1 ?_
          refine ct rfl ?_
          refine cU1 0 rfl (fun w h => fail_any h) ?_
          refine cf hb ?_
          refine bu (c := valC 2 (((pre.foldl accD 0 : Nat) : Int)) []) rfl ?_
          refine sN 1 rfl rfl (by simp [Value.oneCell']) ?_ (by kernel_rfl)
          refine ldN 1 rfl rfl ?_
          exact rtUx (Φ := NumF s) (⟨2, ((pre.foldl accD 0 : Nat) : Int), t, true⟩ : NumO) (fbad _ rfl _ (by omega) (.inl hbig)) rfl
        · have f1 : decide (((pre.foldl accD 0 : Nat) : Int) > 9007199254740991) = false := decide_eq_false (by omega)
          have f2 : (decide (((pre.foldl accD 0 : Nat) : Int) > 9007199254740991) == false) = true := by rw [f1]; rfl
          have hsm : ¬ MAXI < pre.foldl valD 0 := fun h => hA (hv2 h)
          iterate 2 refine ct f2 ?_
          by_cases hz : c1 = 48
          · have z1 : ((c1.toNat : Int) == 48) = true := by rw [hz]; rfl
            have z2 : (((c1.toNat : Int) == 48) == true) = true := by rw [z1]; rfl
            iterate 3 refine ct z2 ?_
            by_cases hf : 1 < pre.length
            · have g1 : decide (((pre.length : Nat) : Int) > 1) = true := decide_eq_true (by omega)
              refine cf (by rw [g1]; rfl) ?_
              refine ct z2 ?_
              refine ct g1 ?_
              refine ct f2 ?_
              refine ct z1 ?_
              refine cf f1 ?_
              refine ct rfl ?_
              refine cU1 0 rfl (fun w h => fail_any h) ?_
              refine cf hb ?_
              refine bu (c := valC 2 (((pre.foldl accD 0 : Nat) : Int)) []) rfl ?_
              refine sN 1 rfl rfl (by simp [Value.oneCell']) ?_ (by kernel_rfl)
              refine ldN 1 rfl rfl ?_
              exact rtUx (Φ := NumF s) (⟨2, ((pre.foldl accD 0 : Nat) : Int), t, true⟩ : NumO) (fbad _ rfl _ (by omega) (.inr ⟨hz, .inl hf⟩)) rfl
            · have g1 : decide (((pre.length : Nat) : Int) > 1) = false := decide_eq_false (by omega)
              refine ct (by rw [g1]; rfl) ?_
              refine ct z2 ?_
              refine cf g1 ?_
              refine ct f2 ?_
              refine ct z1 ?_
              refine cf f1 ?_
              refine cf hb ?_
              refine cf hb ?_
              refine bu (c := valC 2 (((pre.foldl accD 0 : Nat) : Int)) []) rfl ?_
              refine sN 1 rfl rfl (by simp [Value.oneCell']) ?_ (by kernel_rfl)
              refine ldN 1 rfl rfl ?_
              exact rtUx (Φ := NumF s) (⟨2, ((pre.foldl accD 0 : Nat) : Int), t, false⟩ : NumO) (fok (by rintro (h | ⟨_, h | h⟩); exact hsm h; exact hf h; cases h)) rfl
          · have z1 : ((c1.toNat : Int) == 48) = false := by
              rw [beq_eq_false_iff_ne]; intro h; exact hz (UInt8.toNat_inj.1 (by show c1.toNat = 48; omega))
            have z2 : (((c1.toNat : Int) == 48) == true) = false := by rw [z1]; rfl
            iterate 4 refine cf z2 ?_
            refine ct f2 ?_
            refine cf z1 ?_
            refine cf f1 ?_
            refine cf rfl ?_
            refine cf hb ?_
            refine bu (c := valC 2 (((pre.foldl accD 0 : Nat) : Int)) []) rfl ?_
            refine sN 1 rfl rfl (by simp [Value.oneCell']) ?_ (by kernel_rfl)
            refine ldN 1 rfl rfl ?_
            exact rtUx (Φ := NumF s) (⟨2, ((pre.foldl accD 0 : Nat) : Int), t, false⟩ : NumO) (fok (by rintro (h | ⟨h, _⟩); exact hsm h; exact hz h)) rfl
end
end Go.Proofs.YtpegkoklmhccjaaDoor
