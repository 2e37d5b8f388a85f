/- What the laws of chapter 12 share: the engine, the program's json and the reference's, with Check and Good. -/
import Derived.Test.YtpegkoklmhccjaaDoorJb3
section
namespace Go.Proofs.YtpegkoklmhccjaaDoor
open Go.RowKit Go.Sx
set_option linter.unusedVariables false
theorem valid_asc : ∀ (n : Nat) (s : Bs), (∀ c ∈ s.take n, c.toNat < 128) → n ≤ s.length → validP s = validP (s.drop n) := by
  intro n
  induction n with
  | zero => intro s _ _; rfl
  | succ n ih =>
    intro s h hl
    cases s with
    | nil => simp at hl
    | cons a r =>
      have ha : a.toNat < 128 := h a (by simp)
      have hd : decP (a :: r) = some (a.toNat, 1) := by show (if a.toNat < 128 then _ else _) = _; rw [if_pos ha]
      rw [valid_yes hd]
      exact ih r (fun c hc => h c (by simp [hc])) (by simp at hl; omega)
theorem valid_word {s : Bs} (h : wdN s &&& MSK = 0) (hl : 8 ≤ s.length) : validP s = validP (s.drop 8) := valid_asc 8 s (wd_low (fun i hi => tb_and h i hi) hl) hl
theorem valid_words {s : Bs} {x : Nat} (hx : ∀ i, i < 8 → Nat.testBit x (8 * i + 7) = false → Nat.testBit (wdN s) (8 * i + 7) = false) (h : x &&& MSK = 0) (hl : 8 ≤ s.length) : validP s = validP (s.drop 8) := valid_asc 8 s (wd_low (fun i hi => hx i hi (tb_and h i hi)) hl) hl
theorem valid_2 {s : Bs} (h : (wdN s ||| wdN (s.drop 8)) &&& MSK = 0) (hl : 16 ≤ s.length) : validP s = validP (s.drop 16) := by
  rw [valid_words (s := s) (fun i hi h => (tb_or h).1) h (by omega), valid_words (s := s.drop 8) (fun i hi h => (tb_or h).2) h (by rw [List.length_drop]; omega), List.drop_drop]
theorem valid_4 {s : Bs} (h : ((wdN s ||| wdN (s.drop 8)) ||| (wdN (s.drop 16) ||| wdN (s.drop 24))) &&& MSK = 0) (hl : 32 ≤ s.length) : validP s = validP (s.drop 32) := by
  rw [valid_words (s := s) (fun i hi h => (tb_or (tb_or h).1).1) h (by omega), valid_words (s := s.drop 8) (fun i hi h => (tb_or (tb_or h).1).2) h (by rw [List.length_drop]; omega), List.drop_drop,
    valid_words (s := s.drop 16) (fun i hi h => (tb_or (tb_or h).2).1) h (by rw [List.length_drop]; omega), List.drop_drop, valid_words (s := s.drop 24) (fun i hi h => (tb_or (tb_or h).2).2) h (by rw [List.length_drop]; omega), List.drop_drop]
theorem andE (x : Nat) (hx : x < 18446744073709551616) : (bitI .and .u64 (x : Int) 9259542123273814144 == 0) = decide (x &&& MSK = 0) := by
  rw [show bitI .and .u64 (x : Int) 9259542123273814144 = ((x &&& MSK : Nat) : Int) from and64 x MSK hx (by decide)]
  by_cases h : x &&& MSK = 0
  · rw [decide_eq_true h, h]; try rfl
  · rw [decide_eq_false h, beq_eq_false_iff_ne]; omega
set_option maxRecDepth 100000 in
set_option maxHeartbeats 8000000 in
theorem valid_any (l : Bs) (w : World) (hw : Laid w) : Calls Tryd.prog 42 ([sj l] : List Value).toArray w fun e w' => e = .returned (.bool (validP l)) ∧ Below w.heap.size w w' := by
  refine enterV tab_ok Tryd.func42 rfl Tryd.ntmps42 rfl (St.laid hw) ?_
  refine lp tab_ok (fun s : Bs => validP l = validP s ∧ s.length ≤ l.length) (fun s => ⟨[(0, sj s)], [rs laidR], []⟩) (fun s => s.length) l ⟨rfl, Nat.le_refl _⟩ ⟨⟨rfl, trivial⟩, .cons .nil, rfl⟩ ?_
  rintro s ⟨hv, hx⟩
  cases s with
  | nil =>
    refine cf rfl ?_
    exact rt (by rw [hv]; try rfl)
  | cons a r =>
    have ha := a.toNat_lt
    refine ct (decide_eq_true (by rw [str_size]; simp)) ?_
    refine chL 0 rfl rfl ?_
    refine cd (fun hlo => ?_) (fun hlo => ?_)
    · have hd : decP (a :: r) = some (a.toNat, 1) := by show (if a.toNat < 128 then _ else _) = _; rw [if_pos (by omega)]
      have hv1 : validP l = validP r := by rw [hv, valid_yes hd]; rfl
      refine slL 1 (by simp) rfl ?_
      by_cases k8 : 8 < r.length
      case neg =>
        have k1 : decide (((ByteArray.mk (r).toArray).size : Int) > 8) = false := decide_eq_false (by rw [str_size]; omega)
        have k2 : (decide (((ByteArray.mk (r).toArray).size : Int) > 8) == true) = false := by rw [k1]; rfl
        iterate 4 refine cf k2 ?_
        refine cf k1 ?_
        refine cf rfl ?_
        exact ⟨r, ⟨hv1, by simp only [List.length_cons] at hx ⊢; omega⟩, by simp only [List.length_cons]; omega, ⟨⟨rfl, trivial⟩, .cons .nil, rfl⟩⟩
      have k1 : decide (((ByteArray.mk (r).toArray).size : Int) > 8) = true := decide_eq_true (by rw [str_size]; omega)
      have k2 : (decide (((ByteArray.mk (r).toArray).size : Int) > 8) == true) = true := by rw [k1]; rfl
      iterate 2 refine ct k2 ?_
      refine cvs (fun w hs => word_any r (by omega) w) ?_
      iterate 2 refine ct k2 ?_
      refine ct k1 ?_
      by_cases hm : wdN r &&& MSK = 0
      case neg =>
        refine cf ((andE _ (wdN_lt r)).trans (decide_eq_false hm)) ?_
        exact ⟨r, ⟨hv1, by simp only [List.length_cons] at hx ⊢; omega⟩, by simp only [List.length_cons]; omega, ⟨⟨rfl, trivial⟩, .cons .nil, rfl⟩⟩
      refine ct ((andE _ (wdN_lt r)).trans (decide_eq_true hm)) ?_
      refine slL 8 (by simp only [List.drop_succ_cons, List.drop_zero]; omega) rfl ?_
      have hv2 : validP l = validP (r.drop 8) := by rw [hv1, valid_word hm (by omega)]
      have hl2 : (r.drop 8).length ≤ r.length := by rw [List.length_drop]; omega
      have hsl : List.drop 8 (List.drop 1 (a :: r)) = r.drop 8 := rfl
      rw [hsl]
      clear hsl
      generalize r.drop 8 = s8 at hv2 hl2 ⊢
      by_cases q8 : 16 < s8.length
      case neg =>
        have k1 : decide (((ByteArray.mk (s8).toArray).size : Int) > 16) = false := decide_eq_false (by rw [str_size]; omega)
        have k2 : (decide (((ByteArray.mk (s8).toArray).size : Int) > 16) == true) = false := by rw [k1]; rfl
        refine dr [] 99 (.t 0 (.t 1 (.t 2 (.t 3 (.t 4 (.t 5 (.t 6 (.t 7 (.t 8 (.t 9 (.t 10 (.t 11 (.t 12 .nil))))))))))))) tab_ok mixed_ok (by kernel_rfl) (.drop .nil) ?_
        iterate 8 refine cf k2 ?_
        refine cf k1 ?_
        refine cf rfl ?_
        exact ⟨s8, ⟨hv2, by simp only [List.length_cons] at hx ⊢; omega⟩, by simp only [List.length_cons]; omega, ⟨⟨rfl, trivial⟩, .cons .nil, rfl⟩⟩
      have k1 : decide (((ByteArray.mk (s8).toArray).size : Int) > 16) = true := decide_eq_true (by rw [str_size]; omega)
      have k2 : (decide (((ByteArray.mk (s8).toArray).size : Int) > 16) == true) = true := by rw [k1]; rfl
      refine dr [] 99 (.t 0 (.t 1 (.t 2 (.t 3 (.t 4 (.t 5 (.t 6 (.t 7 (.t 8 (.t 9 (.t 10 (.t 11 (.t 12 .nil))))))))))))) tab_ok mixed_ok (by kernel_rfl) (.drop .nil) ?_
      iterate 2 refine ct k2 ?_
      refine czs (fun w hs => word_any (s8) (by omega) w) ?_
      iterate 2 refine ct k2 ?_
      refine slL 8 (by omega) rfl ?_
      refine ct k2 ?_
      refine czs (fun w hs => word_any (s8.drop 8) (by rw [List.length_drop]; omega) w) ?_
      iterate 3 refine ct k2 ?_
      refine ct k1 ?_
      have ho : (bitI .and .u64 (bitI .or .u64 ((wdN s8 : Nat) : Int) ((wdN (s8.drop 8) : Nat) : Int)) 9259542123273814144 == 0) = decide ((wdN s8 ||| wdN (s8.drop 8)) &&& MSK = 0) := by rw [or64 _ _ (wdN_lt _) (wdN_lt _), andE _ (lt64 (wdN_lt _) (wdN_lt _))]
      by_cases hm2 : (wdN s8 ||| wdN (s8.drop 8)) &&& MSK = 0
      case neg =>
        refine cf (ho.trans (decide_eq_false hm2)) ?_
        exact ⟨s8, ⟨hv2, by simp only [List.length_cons] at hx ⊢; omega⟩, by simp only [List.length_cons]; omega, ⟨⟨rfl, trivial⟩, .cons .nil, rfl⟩⟩
      refine ct (ho.trans (decide_eq_true hm2)) ?_
      refine slL 16 (by omega) rfl ?_
      have hv3 : validP l = validP (s8.drop 16) := by rw [hv2, valid_2 hm2 (by omega)]
      refine lpe tab_ok 2 (β := Bs) (fun x => validP l = validP x ∧ x.length ≤ r.length) (fun x => ⟨[(0, sj x)], [rs laidR], []⟩) (α := Bs) (fun x => validP l = validP x ∧ x.length ≤ r.length) (fun x => ⟨[(0, sj x)], [rs laidR], []⟩) (fun x => x.length) (s8.drop 16) ⟨hv3, by rw [List.length_drop]; omega⟩ ⟨⟨rfl, trivial⟩, .cons .nil, rfl⟩ ?_ ?_
      · rintro x ⟨hx1, hx2⟩
        by_cases q32 : 32 < x.length
        case neg =>
          have k1 : decide (((ByteArray.mk (x).toArray).size : Int) > 32) = false := decide_eq_false (by rw [str_size]; omega)
          have k2 : (decide (((ByteArray.mk (x).toArray).size : Int) > 32) == true) = false := by rw [k1]; rfl
          refine dr [] 99 (.t 0 (.t 1 (.t 2 (.t 3 (.t 4 (.t 5 (.t 6 (.t 7 (.t 8 (.t 9 (.t 10 (.t 11 (.t 12 (.t 13 (.t 14 (.t 15 (.t 16 (.t 17 (.t 18 (.t 19 (.t 20 .nil))))))))))))))))))))) tab_ok mixed_ok (by kernel_rfl) (.drop .nil) ?_
          iterate 16 refine cf k2 ?_
          refine cf k1 ?_
          refine cf rfl ?_
          exact ⟨x, ⟨hx1, hx2⟩, ⟨⟨rfl, trivial⟩, .cons .nil, rfl⟩⟩
        have k1 : decide (((ByteArray.mk (x).toArray).size : Int) > 32) = true := decide_eq_true (by rw [str_size]; omega)
        have k2 : (decide (((ByteArray.mk (x).toArray).size : Int) > 32) == true) = true := by rw [k1]; rfl
        refine dr [] 99 (.t 0 (.t 1 (.t 2 (.t 3 (.t 4 (.t 5 (.t 6 (.t 7 (.t 8 (.t 9 (.t 10 (.t 11 (.t 12 (.t 13 (.t 14 (.t 15 (.t 16 (.t 17 (.t 18 (.t 19 (.t 20 .nil))))))))))))))))))))) tab_ok mixed_ok (by kernel_rfl) (.drop .nil) ?_
        iterate 2 refine ct k2 ?_
        refine czs (fun w hs => word_any (x) (by omega) w) ?_
        iterate 2 refine ct k2 ?_
        refine slL 8 (by omega) rfl ?_
        refine ct k2 ?_
        refine czs (fun w hs => word_any (x.drop 8) (by rw [List.length_drop]; omega) w) ?_
        iterate 3 refine ct k2 ?_
        refine slL 16 (by omega) rfl ?_
        refine ct k2 ?_
        refine czs (fun w hs => word_any (x.drop 16) (by rw [List.length_drop]; omega) w) ?_
        iterate 2 refine ct k2 ?_
        refine slL 24 (by omega) rfl ?_
        refine ct k2 ?_
        refine czs (fun w hs => word_any (x.drop 24) (by rw [List.length_drop]; omega) w) ?_
        iterate 4 refine ct k2 ?_
        refine ct k1 ?_
        have ho : (bitI .and .u64 (bitI .or .u64 (bitI .or .u64 ((wdN x : Nat) : Int) ((wdN (x.drop 8) : Nat) : Int)) (bitI .or .u64 ((wdN (x.drop 16) : Nat) : Int) ((wdN (x.drop 24) : Nat) : Int))) 9259542123273814144 == 0) = decide (((wdN x ||| wdN (x.drop 8)) ||| (wdN (x.drop 16) ||| wdN (x.drop 24))) &&& MSK = 0) := by rw [or64 _ _ (wdN_lt _) (wdN_lt _), or64 _ _ (wdN_lt _) (wdN_lt _), or64 _ _ (lt64 (wdN_lt _) (wdN_lt _)) (lt64 (wdN_lt _) (wdN_lt _)), andE _ (lt64 (lt64 (wdN_lt _) (wdN_lt _)) (lt64 (wdN_lt _) (wdN_lt _)))]
        by_cases hm4 : ((wdN x ||| wdN (x.drop 8)) ||| (wdN (x.drop 16) ||| wdN (x.drop 24))) &&& MSK = 0
        case neg =>
          refine cf (ho.trans (decide_eq_false hm4)) ?_
          exact ⟨x, ⟨hx1, hx2⟩, ⟨⟨rfl, trivial⟩, .cons .nil, rfl⟩⟩
        refine ct (ho.trans (decide_eq_true hm4)) ?_
        refine slL 32 (by omega) rfl ?_
        exact ⟨x.drop 32, ⟨by rw [hx1, valid_4 hm4 (by omega)], by rw [List.length_drop]; omega⟩, by rw [List.length_drop]; omega, ⟨⟨rfl, trivial⟩, .cons .nil, rfl⟩⟩
      · rintro x ⟨hx1, hx2⟩
        exact ⟨x, ⟨hx1, by simp only [List.length_cons] at hx; omega⟩, by simp only [List.length_cons]; omega, ⟨⟨rfl, trivial⟩, .cons .nil, rfl⟩⟩
    · rcases cls_tab a.toNat (by omega) (by omega) with ⟨hf, hc⟩ | ⟨z, lo, hi, hc, hz, hxl, h7, h16, hlo2, hhi⟩
      · have hd : decP (a :: r) = none := by show (if a.toNat < 128 then _ else decQ a.toNat _) = none; rw [if_neg (by omega)]; unfold decQ; rw [hc]
        refine ⟨by omega, by omega, ?_⟩
        refine .mk (.int .u8 (fstN a.toNat : Nat)) (fun w hs => ?_) ?_
        · have hp : Laid w := hs.res (k := 0) rfl
          rw [nad_eq, nmu_eq, Nat.zero_add, Nat.mul_one, Int.toNat_natCast]
          exact hp.f a.toNat (by omega)
        rw [hf]
        refine .as (1 : Int) (by decide) (by decide) (by decide) ?_
        refine ⟨by decide, ?_⟩
        refine ⟨by decide, by decide, ?_⟩
        refine .mk #[.int .u8 0, .int .u8 0] rfl (fun w hs => ?_) ?_
        · have hp : Laid w := hs.res (k := 0) rfl
          intro j v hv
          match j, hv with
          | 0, hv => injection hv with hv; rw [← hv]; exact hp.a 30 (by decide)
          | 1, hv => injection hv with hv; rw [← hv]; exact hp.a 31 (by decide)
        intro b6
        refine sN 1 rfl rfl (by kernel_rfl) ?_ (by kernel_rfl)
        iterate 3 refine cf rfl ?_
        exact rt (by rw [hv, valid_no (by simp) hd]; rfl)
      · refine ⟨by omega, by omega, ?_⟩
        refine .mk (.int .u8 (fstN a.toNat : Nat)) (fun w hs => ?_) ?_
        · have hp : Laid w := hs.res (k := 0) rfl
          rw [nad_eq, nmu_eq, Nat.zero_add, Nat.mul_one, Int.toNat_natCast]
          exact hp.f a.toNat (by omega)
        generalize hxx : fstN a.toNat = x at hxl h7 h16 hlo2 hhi ⊢
        refine .as (z : Int) (by rw [show bitI .and .u8 (x : Int) 7 = ((x &&& 7 : Nat) : Int) from andB x 7 (by omega) (by decide), h7]) (by simp only [mn]; omega) (by simp only [mx]; omega) ?_
        have e4 : ((x : Nat) : Int).fdiv (2 ^ (min (4 : Int).toNat IntKind.u8.bits)) = ((x / 16 : Nat) : Int) := by
          rw [show min (4 : Int).toNat IntKind.u8.bits = 4 from rfl, Int.fdiv_eq_ediv_of_nonneg _ (by decide)]
          norm_cast
        refine ⟨by decide, ?_⟩
        refine ⟨by rw [e4]; omega, by rw [e4]; omega, ?_⟩
        refine .mk #[.int .u8 (lo : Nat), .int .u8 (hi : Nat)] rfl (fun w hs => ?_) ?_
        · have hp : Laid w := hs.res (k := 0) rfl
          rw [nad_eq, nmu_eq, Nat.zero_add, e4, Int.toNat_natCast]
          have g0 := hp.a (x / 16 * 2) (by omega)
          have g1 := hp.a (x / 16 * 2 + 1) (by omega)
          rw [hlo2] at g0
          rw [hhi] at g1
          intro j v hv
          match j, hv with
          | 0, hv => injection hv with hv; rw [← hv]; exact g0
          | 1, hv => injection hv with hv; rw [← hv]; exact g1
        intro b6
        refine sN 1 rfl rfl (by kernel_rfl) ?_ (by kernel_rfl)
        rcases hz with rfl | rfl | rfl
        · refine ct rfl ?_
          by_cases c0 : ((ByteArray.mk (a :: r).toArray).size : Int) < 2
          · have c0a : decide (((ByteArray.mk (a :: r).toArray).size : Int) < 2) = true := decide_eq_true c0
            have c0b : (decide (((ByteArray.mk (a :: r).toArray).size : Int) < 2) == false) = false := by rw [c0a]; rfl
            refine dr [cl b6 #[.int .u8 (lo : Nat), .int .u8 (hi : Nat)] 87] 99 (.t 0 (.t 1 (.t 2 (.t 3 (.t 4 (.t 5 (.t 6 (.t 7 (.t 8 (.t 9 (.t 10 (.t 11 (.t 12 (.t 13 (.t 14 (.t 15 (.t 16 .nil))))))))))))))))) tab_ok mixed_ok (by kernel_rfl) (.drop (.cons .nil)) ?_
            refine cf c0b ?_
            refine cf c0b ?_
            refine cf c0b ?_
            refine cf c0b ?_
            refine cf c0b ?_
            refine ct c0a ?_
            refine cf rfl ?_
            refine cf rfl ?_
            refine cf rfl ?_
            refine cf rfl ?_
            refine cf rfl ?_
            refine ct rfl ?_
            refine ct rfl ?_
            have hq : decQ a.toNat r = none := decQ_short a.toNat r 2 lo hi hc (by decide) (by rw [str_size] at c0; simp at c0; omega)
            have hd : decP (a :: r) = none := by show (if a.toNat < 128 then _ else decQ a.toNat _) = none; rw [if_neg (by omega), hq]
            exact rt (by rw [hv, valid_no (by simp) hd]; rfl)
          have hlen : 2 ≤ r.length + 1 := by rw [str_size] at c0; simp at c0; omega
          obtain ⟨b1, r, rfl⟩ : ∃ x t, r = x :: t := by
            cases r with
            | nil => simp at hlen
            | cons x t => exact ⟨x, t, rfl⟩
          have c0a : decide (((ByteArray.mk (a :: (b1 :: r)).toArray).size : Int) < 2) = false := decide_eq_false (by exact c0)
          have c0b : (decide (((ByteArray.mk (a :: (b1 :: r)).toArray).size : Int) < 2) == false) = true := by rw [c0a]; rfl
          by_cases c1 : (b1.toNat : Int) < (lo : Int)
          · have c1a : decide ((b1.toNat : Int) < (lo : Int)) = true := decide_eq_true c1
            have c1b : (decide ((b1.toNat : Int) < (lo : Int)) == false) = false := by rw [c1a]; rfl
            refine dr [cl b6 #[.int .u8 (lo : Nat), .int .u8 (hi : Nat)] 87] 99 (.t 0 (.t 1 (.t 2 (.t 3 (.t 4 (.t 5 (.t 6 (.t 7 (.t 8 (.t 9 (.t 10 (.t 11 (.t 12 (.t 13 (.t 14 (.t 15 (.t 16 .nil))))))))))))))))) tab_ok mixed_ok (by kernel_rfl) (.drop (.cons .nil)) ?_
            refine ct c0b ?_
            refine ct c0b ?_
            refine chL 1 rfl rfl ?_
            refine ct c0b ?_
            refine ct c0b ?_
            refine ld1 0 rfl rfl ?_
            refine ct c0b ?_
            refine cf c0a ?_
            refine cf c1b ?_
            refine cf c1b ?_
            refine cf c1b ?_
            refine cf c1b ?_
            refine cf c1b ?_
            refine ct c1a ?_
            refine ct rfl ?_
            have hq : decQ a.toNat (b1 :: r) = none := by unfold decQ; rw [hc]; dsimp only; rw [if_pos (by omega)]
            have hd : decP (a :: (b1 :: r)) = none := by show (if a.toNat < 128 then _ else decQ a.toNat _) = none; rw [if_neg (by omega), hq]
            exact rt (by rw [hv, valid_no (by simp) hd]; rfl)
          have c1a : decide ((b1.toNat : Int) < (lo : Int)) = false := decide_eq_false (by exact c1)
          have c1b : (decide ((b1.toNat : Int) < (lo : Int)) == false) = true := by rw [c1a]; rfl
          by_cases c2 : (hi : Int) < (b1.toNat : Int)
          · have c2a : decide ((hi : Int) < (b1.toNat : Int)) = true := decide_eq_true c2
            have c2b : (decide ((hi : Int) < (b1.toNat : Int)) == false) = false := by rw [c2a]; rfl
            refine dr [cl b6 #[.int .u8 (lo : Nat), .int .u8 (hi : Nat)] 87] 99 (.t 0 (.t 1 (.t 2 (.t 3 (.t 4 (.t 5 (.t 6 (.t 7 (.t 8 (.t 9 (.t 10 (.t 11 (.t 12 (.t 13 (.t 14 (.t 15 (.t 16 .nil))))))))))))))))) tab_ok mixed_ok (by kernel_rfl) (.drop (.cons .nil)) ?_
            refine ct c0b ?_
            refine ct c0b ?_
            refine chL 1 rfl rfl ?_
            refine ct c0b ?_
            refine ct c0b ?_
            refine ld1 0 rfl rfl ?_
            refine ct c0b ?_
            refine cf c0a ?_
            refine ct c1b ?_
            refine ct c1b ?_
            refine ld1 0 rfl rfl ?_
            refine ct c1b ?_
            refine ct c1b ?_
            refine chL 1 rfl rfl ?_
            refine ct c1b ?_
            refine cf c1a ?_
            refine ct c2a ?_
            have hq : decQ a.toNat (b1 :: r) = none := by unfold decQ; rw [hc]; dsimp only; rw [if_pos (by omega)]
            have hd : decP (a :: (b1 :: r)) = none := by show (if a.toNat < 128 then _ else decQ a.toNat _) = none; rw [if_neg (by omega), hq]
            exact rt (by rw [hv, valid_no (by simp) hd]; rfl)
          have c2a : decide ((hi : Int) < (b1.toNat : Int)) = false := decide_eq_false (by exact c2)
          have c2b : (decide ((hi : Int) < (b1.toNat : Int)) == false) = true := by rw [c2a]; rfl
          refine dr [cl b6 #[.int .u8 (lo : Nat), .int .u8 (hi : Nat)] 87] 99 (.t 0 (.t 1 (.t 2 (.t 3 (.t 4 (.t 5 (.t 6 (.t 7 (.t 8 (.t 9 (.t 10 (.t 11 (.t 12 (.t 13 (.t 14 (.t 15 (.t 16 .nil))))))))))))))))) tab_ok mixed_ok (by kernel_rfl) (.drop (.cons .nil)) ?_
          refine ct c0b ?_
          refine ct c0b ?_
          refine chL 1 rfl rfl ?_
          refine ct c0b ?_
          refine ct c0b ?_
          refine ld1 0 rfl rfl ?_
          refine ct c0b ?_
          refine cf c0a ?_
          refine ct c1b ?_
          refine ct c1b ?_
          refine ld1 0 rfl rfl ?_
          refine ct c1b ?_
          refine ct c1b ?_
          refine chL 1 rfl rfl ?_
          refine ct c1b ?_
          refine cf c1a ?_
          refine cf c2a ?_
          refine slL 2 (by simp only [List.length_cons]; omega) rfl ?_
          have hq : decQ a.toNat (b1 :: r) = some (a.toNat % 32 * 64 + b1.toNat % 64, 2) := by unfold decQ; rw [hc]; dsimp only; rw [if_neg (by omega), if_pos rfl]
          have hd : decP (a :: (b1 :: r)) = some (a.toNat % 32 * 64 + b1.toNat % 64, 2) := by show (if a.toNat < 128 then _ else decQ a.toNat _) = _; rw [if_neg (by omega), hq]
          exact ⟨r, ⟨by rw [hv, valid_yes hd]; rfl, by simp only [List.length_cons] at hx; omega⟩, by simp only [List.length_cons]; omega, ⟨⟨rfl, trivial⟩, .cons (.drop .nil), rfl⟩⟩
        · refine cf rfl ?_
          refine ct rfl ?_
          by_cases c0 : ((ByteArray.mk (a :: r).toArray).size : Int) < 3
          · have c0a : decide (((ByteArray.mk (a :: r).toArray).size : Int) < 3) = true := decide_eq_true c0
            have c0b : (decide (((ByteArray.mk (a :: r).toArray).size : Int) < 3) == false) = false := by rw [c0a]; rfl
            refine dr [cl b6 #[.int .u8 (lo : Nat), .int .u8 (hi : Nat)] 87] 99 (.t 0 (.t 1 (.t 2 (.t 3 (.t 4 (.t 5 (.t 6 (.t 7 (.t 8 (.t 9 (.t 10 (.t 11 (.t 12 (.t 13 (.t 14 (.t 15 (.t 16 (.t 17 (.t 18 (.t 19 (.t 20 (.t 21 (.t 22 (.t 23 (.t 24 (.t 25 (.t 26 .nil))))))))))))))))))))))))))) tab_ok mixed_ok (by kernel_rfl) (.drop (.cons .nil)) ?_
            refine cf c0b ?_
            refine cf c0b ?_
            refine cf c0b ?_
            refine cf c0b ?_
            refine cf c0b ?_
            refine ct c0a ?_
            refine cf rfl ?_
            refine cf rfl ?_
            refine cf rfl ?_
            refine cf rfl ?_
            refine cf rfl ?_
            refine ct rfl ?_
            refine cf rfl ?_
            refine cf rfl ?_
            refine cf rfl ?_
            refine ct rfl ?_
            refine cf rfl ?_
            refine cf rfl ?_
            refine cf rfl ?_
            refine ct rfl ?_
            refine ct rfl ?_
            have hq : decQ a.toNat r = none := decQ_short a.toNat r 3 lo hi hc (by decide) (by rw [str_size] at c0; simp at c0; omega)
            have hd : decP (a :: r) = none := by show (if a.toNat < 128 then _ else decQ a.toNat _) = none; rw [if_neg (by omega), hq]
            exact rt (by rw [hv, valid_no (by simp) hd]; rfl)
          have hlen : 3 ≤ r.length + 1 := by rw [str_size] at c0; simp at c0; omega
          obtain ⟨b1, r, rfl⟩ : ∃ x t, r = x :: t := by
            cases r with
            | nil => simp at hlen
            | cons x t => exact ⟨x, t, rfl⟩
          obtain ⟨b2, r, rfl⟩ : ∃ x t, r = x :: t := by
            cases r with
            | nil => simp at hlen
            | cons x t => exact ⟨x, t, rfl⟩
          have c0a : decide (((ByteArray.mk (a :: (b1 :: b2 :: r)).toArray).size : Int) < 3) = false := decide_eq_false (by exact c0)
          have c0b : (decide (((ByteArray.mk (a :: (b1 :: b2 :: r)).toArray).size : Int) < 3) == false) = true := by rw [c0a]; rfl
          by_cases c1 : (b1.toNat : Int) < (lo : Int)
          · have c1a : decide ((b1.toNat : Int) < (lo : Int)) = true := decide_eq_true c1
            have c1b : (decide ((b1.toNat : Int) < (lo : Int)) == false) = false := by rw [c1a]; rfl
            refine dr [cl b6 #[.int .u8 (lo : Nat), .int .u8 (hi : Nat)] 87] 99 (.t 0 (.t 1 (.t 2 (.t 3 (.t 4 (.t 5 (.t 6 (.t 7 (.t 8 (.t 9 (.t 10 (.t 11 (.t 12 (.t 13 (.t 14 (.t 15 (.t 16 (.t 17 (.t 18 (.t 19 (.t 20 (.t 21 (.t 22 (.t 23 (.t 24 (.t 25 (.t 26 .nil))))))))))))))))))))))))))) tab_ok mixed_ok (by kernel_rfl) (.drop (.cons .nil)) ?_
            refine ct c0b ?_
            refine ct c0b ?_
            refine chL 1 rfl rfl ?_
            refine ct c0b ?_
            refine ct c0b ?_
            refine ld1 0 rfl rfl ?_
            refine ct c0b ?_
            refine cf c0a ?_
            refine cf c1b ?_
            refine cf c1b ?_
            refine cf c1b ?_
            refine cf c1b ?_
            refine cf c1b ?_
            refine ct c1a ?_
            refine cf rfl ?_
            refine cf rfl ?_
            refine cf rfl ?_
            refine ct rfl ?_
            refine cf rfl ?_
            refine cf rfl ?_
            refine cf rfl ?_
            refine ct rfl ?_
            refine ct rfl ?_
            have hq : decQ a.toNat (b1 :: b2 :: r) = none := by unfold decQ; rw [hc]; dsimp only; rw [if_pos (by omega)]
            have hd : decP (a :: (b1 :: b2 :: r)) = none := by show (if a.toNat < 128 then _ else decQ a.toNat _) = none; rw [if_neg (by omega), hq]
            exact rt (by rw [hv, valid_no (by simp) hd]; rfl)
          have c1a : decide ((b1.toNat : Int) < (lo : Int)) = false := decide_eq_false (by exact c1)
          have c1b : (decide ((b1.toNat : Int) < (lo : Int)) == false) = true := by rw [c1a]; rfl
          by_cases c2 : (hi : Int) < (b1.toNat : Int)
          · have c2a : decide ((hi : Int) < (b1.toNat : Int)) = true := decide_eq_true c2
            have c2b : (decide ((hi : Int) < (b1.toNat : Int)) == false) = false := by rw [c2a]; rfl
            refine dr [cl b6 #[.int .u8 (lo : Nat), .int .u8 (hi : Nat)] 87] 99 (.t 0 (.t 1 (.t 2 (.t 3 (.t 4 (.t 5 (.t 6 (.t 7 (.t 8 (.t 9 (.t 10 (.t 11 (.t 12 (.t 13 (.t 14 (.t 15 (.t 16 (.t 17 (.t 18 (.t 19 (.t 20 (.t 21 (.t 22 (.t 23 (.t 24 (.t 25 (.t 26 .nil))))))))))))))))))))))))))) tab_ok mixed_ok (by kernel_rfl) (.drop (.cons .nil)) ?_
            refine ct c0b ?_
            refine ct c0b ?_
            refine chL 1 rfl rfl ?_
            refine ct c0b ?_
            refine ct c0b ?_
            refine ld1 0 rfl rfl ?_
            refine ct c0b ?_
            refine cf c0a ?_
            refine ct c1b ?_
            refine ct c1b ?_
            refine ld1 0 rfl rfl ?_
            refine ct c1b ?_
            refine ct c1b ?_
            refine chL 1 rfl rfl ?_
            refine ct c1b ?_
            refine cf c1a ?_
            refine cf c2b ?_
            refine cf c2b ?_
            refine cf c2b ?_
            refine ct c2a ?_
            refine cf rfl ?_
            refine cf rfl ?_
            refine cf rfl ?_
            refine ct rfl ?_
            refine ct rfl ?_
            have hq : decQ a.toNat (b1 :: b2 :: r) = none := by unfold decQ; rw [hc]; dsimp only; rw [if_pos (by omega)]
            have hd : decP (a :: (b1 :: b2 :: r)) = none := by show (if a.toNat < 128 then _ else decQ a.toNat _) = none; rw [if_neg (by omega), hq]
            exact rt (by rw [hv, valid_no (by simp) hd]; rfl)
          have c2a : decide ((hi : Int) < (b1.toNat : Int)) = false := decide_eq_false (by exact c2)
          have c2b : (decide ((hi : Int) < (b1.toNat : Int)) == false) = true := by rw [c2a]; rfl
          by_cases c3 : (b2.toNat : Int) < 128
          · have c3a : decide ((b2.toNat : Int) < 128) = true := decide_eq_true c3
            have c3b : (decide ((b2.toNat : Int) < 128) == false) = false := by rw [c3a]; rfl
            refine dr [cl b6 #[.int .u8 (lo : Nat), .int .u8 (hi : Nat)] 87] 99 (.t 0 (.t 1 (.t 2 (.t 3 (.t 4 (.t 5 (.t 6 (.t 7 (.t 8 (.t 9 (.t 10 (.t 11 (.t 12 (.t 13 (.t 14 (.t 15 (.t 16 (.t 17 (.t 18 (.t 19 (.t 20 (.t 21 (.t 22 (.t 23 (.t 24 (.t 25 (.t 26 .nil))))))))))))))))))))))))))) tab_ok mixed_ok (by kernel_rfl) (.drop (.cons .nil)) ?_
            refine ct c0b ?_
            refine ct c0b ?_
            refine chL 1 rfl rfl ?_
            refine ct c0b ?_
            refine ct c0b ?_
            refine ld1 0 rfl rfl ?_
            refine ct c0b ?_
            refine cf c0a ?_
            refine ct c1b ?_
            refine ct c1b ?_
            refine ld1 0 rfl rfl ?_
            refine ct c1b ?_
            refine ct c1b ?_
            refine chL 1 rfl rfl ?_
            refine ct c1b ?_
            refine cf c1a ?_
            refine ct c2b ?_
            refine ct c2b ?_
            refine chL 2 rfl rfl ?_
            refine ct c2b ?_
            refine cf c2a ?_
            refine cf c3b ?_
            refine cf c3b ?_
            refine cf c3b ?_
            refine ct c3a ?_
            refine ct rfl ?_
            have hq : decQ a.toNat (b1 :: b2 :: r) = none := by unfold decQ; rw [hc]; dsimp only; rw [if_neg (by omega), if_neg (by decide), if_pos (by omega)]
            have hd : decP (a :: (b1 :: b2 :: r)) = none := by show (if a.toNat < 128 then _ else decQ a.toNat _) = none; rw [if_neg (by omega), hq]
            exact rt (by rw [hv, valid_no (by simp) hd]; rfl)
          have c3a : decide ((b2.toNat : Int) < 128) = false := decide_eq_false (by exact c3)
          have c3b : (decide ((b2.toNat : Int) < 128) == false) = true := by rw [c3a]; rfl
          by_cases c4 : (191 : Int) < (b2.toNat : Int)
          · have c4a : decide ((191 : Int) < (b2.toNat : Int)) = true := decide_eq_true c4
            have c4b : (decide ((191 : Int) < (b2.toNat : Int)) == false) = false := by rw [c4a]; rfl
            refine dr [cl b6 #[.int .u8 (lo : Nat), .int .u8 (hi : Nat)] 87] 99 (.t 0 (.t 1 (.t 2 (.t 3 (.t 4 (.t 5 (.t 6 (.t 7 (.t 8 (.t 9 (.t 10 (.t 11 (.t 12 (.t 13 (.t 14 (.t 15 (.t 16 (.t 17 (.t 18 (.t 19 (.t 20 (.t 21 (.t 22 (.t 23 (.t 24 (.t 25 (.t 26 .nil))))))))))))))))))))))))))) tab_ok mixed_ok (by kernel_rfl) (.drop (.cons .nil)) ?_
            refine ct c0b ?_
            refine ct c0b ?_
            refine chL 1 rfl rfl ?_
            refine ct c0b ?_
            refine ct c0b ?_
            refine ld1 0 rfl rfl ?_
            refine ct c0b ?_
            refine cf c0a ?_
            refine ct c1b ?_
            refine ct c1b ?_
            refine ld1 0 rfl rfl ?_
            refine ct c1b ?_
            refine ct c1b ?_
            refine chL 1 rfl rfl ?_
            refine ct c1b ?_
            refine cf c1a ?_
            refine ct c2b ?_
            refine ct c2b ?_
            refine chL 2 rfl rfl ?_
            refine ct c2b ?_
            refine cf c2a ?_
            refine ct c3b ?_
            refine ct c3b ?_
            refine chL 2 rfl rfl ?_
            refine ct c3b ?_
            refine cf c3a ?_
            refine ct c4a ?_
            have hq : decQ a.toNat (b1 :: b2 :: r) = none := by unfold decQ; rw [hc]; dsimp only; rw [if_neg (by omega), if_neg (by decide), if_pos (by omega)]
            have hd : decP (a :: (b1 :: b2 :: r)) = none := by show (if a.toNat < 128 then _ else decQ a.toNat _) = none; rw [if_neg (by omega), hq]
            exact rt (by rw [hv, valid_no (by simp) hd]; rfl)
          have c4a : decide ((191 : Int) < (b2.toNat : Int)) = false := decide_eq_false (by exact c4)
          have c4b : (decide ((191 : Int) < (b2.toNat : Int)) == false) = true := by rw [c4a]; rfl
          refine dr [cl b6 #[.int .u8 (lo : Nat), .int .u8 (hi : Nat)] 87] 99 (.t 0 (.t 1 (.t 2 (.t 3 (.t 4 (.t 5 (.t 6 (.t 7 (.t 8 (.t 9 (.t 10 (.t 11 (.t 12 (.t 13 (.t 14 (.t 15 (.t 16 (.t 17 (.t 18 (.t 19 (.t 20 (.t 21 (.t 22 (.t 23 (.t 24 (.t 25 (.t 26 .nil))))))))))))))))))))))))))) tab_ok mixed_ok (by kernel_rfl) (.drop (.cons .nil)) ?_
          refine ct c0b ?_
          refine ct c0b ?_
          refine chL 1 rfl rfl ?_
          refine ct c0b ?_
          refine ct c0b ?_
          refine ld1 0 rfl rfl ?_
          refine ct c0b ?_
          refine cf c0a ?_
          refine ct c1b ?_
          refine ct c1b ?_
          refine ld1 0 rfl rfl ?_
          refine ct c1b ?_
          refine ct c1b ?_
          refine chL 1 rfl rfl ?_
          refine ct c1b ?_
          refine cf c1a ?_
          refine ct c2b ?_
          refine ct c2b ?_
          refine chL 2 rfl rfl ?_
          refine ct c2b ?_
          refine cf c2a ?_
          refine ct c3b ?_
          refine ct c3b ?_
          refine chL 2 rfl rfl ?_
          refine ct c3b ?_
          refine cf c3a ?_
          refine cf c4a ?_
          refine slL 3 (by simp only [List.length_cons]; omega) rfl ?_
          have hq : decQ a.toNat (b1 :: b2 :: r) = some (a.toNat % 16 * 4096 + b1.toNat % 64 * 64 + b2.toNat % 64, 3) := by unfold decQ; rw [hc]; dsimp only; rw [if_neg (by omega), if_neg (by decide), if_neg (by omega), if_pos rfl]
          have hd : decP (a :: (b1 :: b2 :: r)) = some (a.toNat % 16 * 4096 + b1.toNat % 64 * 64 + b2.toNat % 64, 3) := by show (if a.toNat < 128 then _ else decQ a.toNat _) = _; rw [if_neg (by omega), hq]
          exact ⟨r, ⟨by rw [hv, valid_yes hd]; rfl, by simp only [List.length_cons] at hx; omega⟩, by simp only [List.length_cons]; omega, ⟨⟨rfl, trivial⟩, .cons (.drop .nil), rfl⟩⟩
        · refine cf rfl ?_
          refine cf rfl ?_
          refine ct rfl ?_
          by_cases c0 : ((ByteArray.mk (a :: r).toArray).size : Int) < 4
          · have c0a : decide (((ByteArray.mk (a :: r).toArray).size : Int) < 4) = true := decide_eq_true c0
            have c0b : (decide (((ByteArray.mk (a :: r).toArray).size : Int) < 4) == false) = false := by rw [c0a]; rfl
            refine dr [cl b6 #[.int .u8 (lo : Nat), .int .u8 (hi : Nat)] 87] 99 (.t 0 (.t 1 (.t 2 (.t 3 (.t 4 (.t 5 (.t 6 (.t 7 (.t 8 (.t 9 (.t 10 (.t 11 (.t 12 (.t 13 (.t 14 (.t 15 (.t 16 (.t 17 (.t 18 (.t 19 (.t 20 (.t 21 (.t 22 (.t 23 (.t 24 (.t 25 (.t 26 (.t 27 (.t 28 (.t 29 (.t 30 (.t 31 (.t 32 (.t 33 (.t 34 (.t 35 (.t 36 .nil))))))))))))))))))))))))))))))))))))) tab_ok mixed_ok (by kernel_rfl) (.drop (.cons .nil)) ?_
            refine cf c0b ?_
            refine cf c0b ?_
            refine cf c0b ?_
            refine cf c0b ?_
            refine cf c0b ?_
            refine ct c0a ?_
            refine cf rfl ?_
            refine cf rfl ?_
            refine cf rfl ?_
            refine cf rfl ?_
            refine cf rfl ?_
            refine ct rfl ?_
            refine cf rfl ?_
            refine cf rfl ?_
            refine cf rfl ?_
            refine ct rfl ?_
            refine cf rfl ?_
            refine cf rfl ?_
            refine cf rfl ?_
            refine ct rfl ?_
            refine cf rfl ?_
            refine cf rfl ?_
            refine cf rfl ?_
            refine ct rfl ?_
            refine cf rfl ?_
            refine cf rfl ?_
            refine cf rfl ?_
            refine ct rfl ?_
            refine ct rfl ?_
            have hq : decQ a.toNat r = none := decQ_short a.toNat r 4 lo hi hc (by decide) (by rw [str_size] at c0; simp at c0; omega)
            have hd : decP (a :: r) = none := by show (if a.toNat < 128 then _ else decQ a.toNat _) = none; rw [if_neg (by omega), hq]
            exact rt (by rw [hv, valid_no (by simp) hd]; rfl)
          have hlen : 4 ≤ r.length + 1 := by rw [str_size] at c0; simp at c0; omega
          obtain ⟨b1, r, rfl⟩ : ∃ x t, r = x :: t := by
            cases r with
            | nil => simp at hlen
            | cons x t => exact ⟨x, t, rfl⟩
          obtain ⟨b2, r, rfl⟩ : ∃ x t, r = x :: t := by
            cases r with
            | nil => simp at hlen
            | cons x t => exact ⟨x, t, rfl⟩
          obtain ⟨b3, r, rfl⟩ : ∃ x t, r = x :: t := by
            cases r with
            | nil => simp at hlen
            | cons x t => exact ⟨x, t, rfl⟩
          have c0a : decide (((ByteArray.mk (a :: (b1 :: b2 :: b3 :: r)).toArray).size : Int) < 4) = false := decide_eq_false (by exact c0)
          have c0b : (decide (((ByteArray.mk (a :: (b1 :: b2 :: b3 :: r)).toArray).size : Int) < 4) == false) = true := by rw [c0a]; rfl
          by_cases c1 : (b1.toNat : Int) < (lo : Int)
          · have c1a : decide ((b1.toNat : Int) < (lo : Int)) = true := decide_eq_true c1
            have c1b : (decide ((b1.toNat : Int) < (lo : Int)) == false) = false := by rw [c1a]; rfl
            refine dr [cl b6 #[.int .u8 (lo : Nat), .int .u8 (hi : Nat)] 87] 99 (.t 0 (.t 1 (.t 2 (.t 3 (.t 4 (.t 5 (.t 6 (.t 7 (.t 8 (.t 9 (.t 10 (.t 11 (.t 12 (.t 13 (.t 14 (.t 15 (.t 16 (.t 17 (.t 18 (.t 19 (.t 20 (.t 21 (.t 22 (.t 23 (.t 24 (.t 25 (.t 26 (.t 27 (.t 28 (.t 29 (.t 30 (.t 31 (.t 32 (.t 33 (.t 34 (.t 35 (.t 36 .nil))))))))))))))))))))))))))))))))))))) tab_ok mixed_ok (by kernel_rfl) (.drop (.cons .nil)) ?_
            refine ct c0b ?_
            refine ct c0b ?_
            refine chL 1 rfl rfl ?_
            refine ct c0b ?_
            refine ct c0b ?_
            refine ld1 0 rfl rfl ?_
            refine ct c0b ?_
            refine cf c0a ?_
            refine cf c1b ?_
            refine cf c1b ?_
            refine cf c1b ?_
            refine cf c1b ?_
            refine cf c1b ?_
            refine ct c1a ?_
            refine cf rfl ?_
            refine cf rfl ?_
            refine cf rfl ?_
            refine ct rfl ?_
            refine cf rfl ?_
            refine cf rfl ?_
            refine cf rfl ?_
            refine ct rfl ?_
            refine cf rfl ?_
            refine cf rfl ?_
            refine cf rfl ?_
            refine ct rfl ?_
            refine cf rfl ?_
            refine cf rfl ?_
            refine cf rfl ?_
            refine ct rfl ?_
            refine ct rfl ?_
            have hq : decQ a.toNat (b1 :: b2 :: b3 :: r) = none := by unfold decQ; rw [hc]; dsimp only; rw [if_pos (by omega)]
            have hd : decP (a :: (b1 :: b2 :: b3 :: r)) = none := by show (if a.toNat < 128 then _ else decQ a.toNat _) = none; rw [if_neg (by omega), hq]
            exact rt (by rw [hv, valid_no (by simp) hd]; rfl)
          have c1a : decide ((b1.toNat : Int) < (lo : Int)) = false := decide_eq_false (by exact c1)
          have c1b : (decide ((b1.toNat : Int) < (lo : Int)) == false) = true := by rw [c1a]; rfl
          by_cases c2 : (hi : Int) < (b1.toNat : Int)
          · have c2a : decide ((hi : Int) < (b1.toNat : Int)) = true := decide_eq_true c2
            have c2b : (decide ((hi : Int) < (b1.toNat : Int)) == false) = false := by rw [c2a]; rfl
            refine dr [cl b6 #[.int .u8 (lo : Nat), .int .u8 (hi : Nat)] 87] 99 (.t 0 (.t 1 (.t 2 (.t 3 (.t 4 (.t 5 (.t 6 (.t 7 (.t 8 (.t 9 (.t 10 (.t 11 (.t 12 (.t 13 (.t 14 (.t 15 (.t 16 (.t 17 (.t 18 (.t 19 (.t 20 (.t 21 (.t 22 (.t 23 (.t 24 (.t 25 (.t 26 (.t 27 (.t 28 (.t 29 (.t 30 (.t 31 (.t 32 (.t 33 (.t 34 (.t 35 (.t 36 .nil))))))))))))))))))))))))))))))))))))) tab_ok mixed_ok (by kernel_rfl) (.drop (.cons .nil)) ?_
            refine ct c0b ?_
            refine ct c0b ?_
            refine chL 1 rfl rfl ?_
            refine ct c0b ?_
            refine ct c0b ?_
            refine ld1 0 rfl rfl ?_
            refine ct c0b ?_
            refine cf c0a ?_
            refine ct c1b ?_
            refine ct c1b ?_
            refine ld1 0 rfl rfl ?_
            refine ct c1b ?_
            refine ct c1b ?_
            refine chL 1 rfl rfl ?_
            refine ct c1b ?_
            refine cf c1a ?_
            refine cf c2b ?_
            refine cf c2b ?_
            refine cf c2b ?_
            refine ct c2a ?_
            refine cf rfl ?_
            refine cf rfl ?_
            refine cf rfl ?_
            refine ct rfl ?_
            refine cf rfl ?_
            refine cf rfl ?_
            refine cf rfl ?_
            refine ct rfl ?_
            refine cf rfl ?_
            refine cf rfl ?_
            refine cf rfl ?_
            refine ct rfl ?_
            refine ct rfl ?_
            have hq : decQ a.toNat (b1 :: b2 :: b3 :: r) = none := by unfold decQ; rw [hc]; dsimp only; rw [if_pos (by omega)]
            have hd : decP (a :: (b1 :: b2 :: b3 :: r)) = none := by show (if a.toNat < 128 then _ else decQ a.toNat _) = none; rw [if_neg (by omega), hq]
            exact rt (by rw [hv, valid_no (by simp) hd]; rfl)
          have c2a : decide ((hi : Int) < (b1.toNat : Int)) = false := decide_eq_false (by exact c2)
          have c2b : (decide ((hi : Int) < (b1.toNat : Int)) == false) = true := by rw [c2a]; rfl
          by_cases c3 : (b2.toNat : Int) < 128
          · have c3a : decide ((b2.toNat : Int) < 128) = true := decide_eq_true c3
            have c3b : (decide ((b2.toNat : Int) < 128) == false) = false := by rw [c3a]; rfl
            refine dr [cl b6 #[.int .u8 (lo : Nat), .int .u8 (hi : Nat)] 87] 99 (.t 0 (.t 1 (.t 2 (.t 3 (.t 4 (.t 5 (.t 6 (.t 7 (.t 8 (.t 9 (.t 10 (.t 11 (.t 12 (.t 13 (.t 14 (.t 15 (.t 16 (.t 17 (.t 18 (.t 19 (.t 20 (.t 21 (.t 22 (.t 23 (.t 24 (.t 25 (.t 26 (.t 27 (.t 28 (.t 29 (.t 30 (.t 31 (.t 32 (.t 33 (.t 34 (.t 35 (.t 36 .nil))))))))))))))))))))))))))))))))))))) tab_ok mixed_ok (by kernel_rfl) (.drop (.cons .nil)) ?_
            refine ct c0b ?_
            refine ct c0b ?_
            refine chL 1 rfl rfl ?_
            refine ct c0b ?_
            refine ct c0b ?_
            refine ld1 0 rfl rfl ?_
            refine ct c0b ?_
            refine cf c0a ?_
            refine ct c1b ?_
            refine ct c1b ?_
            refine ld1 0 rfl rfl ?_
            refine ct c1b ?_
            refine ct c1b ?_
            refine chL 1 rfl rfl ?_
            refine ct c1b ?_
            refine cf c1a ?_
            refine ct c2b ?_
            refine ct c2b ?_
            refine chL 2 rfl rfl ?_
            refine ct c2b ?_
            refine cf c2a ?_
            refine cf c3b ?_
            refine cf c3b ?_
            refine cf c3b ?_
            refine ct c3a ?_
            refine cf rfl ?_
            refine cf rfl ?_
            refine cf rfl ?_
            refine ct rfl ?_
            refine cf rfl ?_
            refine cf rfl ?_
            refine cf rfl ?_
            refine ct rfl ?_
            refine ct rfl ?_
            have hq : decQ a.toNat (b1 :: b2 :: b3 :: r) = none := by unfold decQ; rw [hc]; dsimp only; rw [if_neg (by omega), if_neg (by decide), if_pos (by omega)]
            have hd : decP (a :: (b1 :: b2 :: b3 :: r)) = none := by show (if a.toNat < 128 then _ else decQ a.toNat _) = none; rw [if_neg (by omega), hq]
            exact rt (by rw [hv, valid_no (by simp) hd]; rfl)
          have c3a : decide ((b2.toNat : Int) < 128) = false := decide_eq_false (by exact c3)
          have c3b : (decide ((b2.toNat : Int) < 128) == false) = true := by rw [c3a]; rfl
          by_cases c4 : (191 : Int) < (b2.toNat : Int)
          · have c4a : decide ((191 : Int) < (b2.toNat : Int)) = true := decide_eq_true c4
            have c4b : (decide ((191 : Int) < (b2.toNat : Int)) == false) = false := by rw [c4a]; rfl
            refine dr [cl b6 #[.int .u8 (lo : Nat), .int .u8 (hi : Nat)] 87] 99 (.t 0 (.t 1 (.t 2 (.t 3 (.t 4 (.t 5 (.t 6 (.t 7 (.t 8 (.t 9 (.t 10 (.t 11 (.t 12 (.t 13 (.t 14 (.t 15 (.t 16 (.t 17 (.t 18 (.t 19 (.t 20 (.t 21 (.t 22 (.t 23 (.t 24 (.t 25 (.t 26 (.t 27 (.t 28 (.t 29 (.t 30 (.t 31 (.t 32 (.t 33 (.t 34 (.t 35 (.t 36 .nil))))))))))))))))))))))))))))))))))))) tab_ok mixed_ok (by kernel_rfl) (.drop (.cons .nil)) ?_
            refine ct c0b ?_
            refine ct c0b ?_
            refine chL 1 rfl rfl ?_
            refine ct c0b ?_
            refine ct c0b ?_
            refine ld1 0 rfl rfl ?_
            refine ct c0b ?_
            refine cf c0a ?_
            refine ct c1b ?_
            refine ct c1b ?_
            refine ld1 0 rfl rfl ?_
            refine ct c1b ?_
            refine ct c1b ?_
            refine chL 1 rfl rfl ?_
            refine ct c1b ?_
            refine cf c1a ?_
            refine ct c2b ?_
            refine ct c2b ?_
            refine chL 2 rfl rfl ?_
            refine ct c2b ?_
            refine cf c2a ?_
            refine ct c3b ?_
            refine ct c3b ?_
            refine chL 2 rfl rfl ?_
            refine ct c3b ?_
            refine cf c3a ?_
            refine cf c4b ?_
            refine cf c4b ?_
            refine cf c4b ?_
            refine ct c4a ?_
            refine cf rfl ?_
            refine cf rfl ?_
            refine cf rfl ?_
            refine ct rfl ?_
            refine ct rfl ?_
            have hq : decQ a.toNat (b1 :: b2 :: b3 :: r) = none := by unfold decQ; rw [hc]; dsimp only; rw [if_neg (by omega), if_neg (by decide), if_pos (by omega)]
            have hd : decP (a :: (b1 :: b2 :: b3 :: r)) = none := by show (if a.toNat < 128 then _ else decQ a.toNat _) = none; rw [if_neg (by omega), hq]
            exact rt (by rw [hv, valid_no (by simp) hd]; rfl)
          have c4a : decide ((191 : Int) < (b2.toNat : Int)) = false := decide_eq_false (by exact c4)
          have c4b : (decide ((191 : Int) < (b2.toNat : Int)) == false) = true := by rw [c4a]; rfl
          by_cases c5 : (b3.toNat : Int) < 128
          · have c5a : decide ((b3.toNat : Int) < 128) = true := decide_eq_true c5
            have c5b : (decide ((b3.toNat : Int) < 128) == false) = false := by rw [c5a]; rfl
            refine dr [cl b6 #[.int .u8 (lo : Nat), .int .u8 (hi : Nat)] 87] 99 (.t 0 (.t 1 (.t 2 (.t 3 (.t 4 (.t 5 (.t 6 (.t 7 (.t 8 (.t 9 (.t 10 (.t 11 (.t 12 (.t 13 (.t 14 (.t 15 (.t 16 (.t 17 (.t 18 (.t 19 (.t 20 (.t 21 (.t 22 (.t 23 (.t 24 (.t 25 (.t 26 (.t 27 (.t 28 (.t 29 (.t 30 (.t 31 (.t 32 (.t 33 (.t 34 (.t 35 (.t 36 .nil))))))))))))))))))))))))))))))))))))) tab_ok mixed_ok (by kernel_rfl) (.drop (.cons .nil)) ?_
            refine ct c0b ?_
            refine ct c0b ?_
            refine chL 1 rfl rfl ?_
            refine ct c0b ?_
            refine ct c0b ?_
            refine ld1 0 rfl rfl ?_
            refine ct c0b ?_
            refine cf c0a ?_
            refine ct c1b ?_
            refine ct c1b ?_
            refine ld1 0 rfl rfl ?_
            refine ct c1b ?_
            refine ct c1b ?_
            refine chL 1 rfl rfl ?_
            refine ct c1b ?_
            refine cf c1a ?_
            refine ct c2b ?_
            refine ct c2b ?_
            refine chL 2 rfl rfl ?_
            refine ct c2b ?_
            refine cf c2a ?_
            refine ct c3b ?_
            refine ct c3b ?_
            refine chL 2 rfl rfl ?_
            refine ct c3b ?_
            refine cf c3a ?_
            refine ct c4b ?_
            refine ct c4b ?_
            refine chL 3 rfl rfl ?_
            refine ct c4b ?_
            refine cf c4a ?_
            refine cf c5b ?_
            refine cf c5b ?_
            refine cf c5b ?_
            refine ct c5a ?_
            refine ct rfl ?_
            have hq : decQ a.toNat (b1 :: b2 :: b3 :: r) = none := by unfold decQ; rw [hc]; dsimp only; rw [if_neg (by omega), if_neg (by decide), if_neg (by omega), if_neg (by decide), if_pos (by omega)]
            have hd : decP (a :: (b1 :: b2 :: b3 :: r)) = none := by show (if a.toNat < 128 then _ else decQ a.toNat _) = none; rw [if_neg (by omega), hq]
            exact rt (by rw [hv, valid_no (by simp) hd]; rfl)
          have c5a : decide ((b3.toNat : Int) < 128) = false := decide_eq_false (by exact c5)
          have c5b : (decide ((b3.toNat : Int) < 128) == false) = true := by rw [c5a]; rfl
          by_cases c6 : (191 : Int) < (b3.toNat : Int)
          · have c6a : decide ((191 : Int) < (b3.toNat : Int)) = true := decide_eq_true c6
            have c6b : (decide ((191 : Int) < (b3.toNat : Int)) == false) = false := by rw [c6a]; rfl
            refine dr [cl b6 #[.int .u8 (lo : Nat), .int .u8 (hi : Nat)] 87] 99 (.t 0 (.t 1 (.t 2 (.t 3 (.t 4 (.t 5 (.t 6 (.t 7 (.t 8 (.t 9 (.t 10 (.t 11 (.t 12 (.t 13 (.t 14 (.t 15 (.t 16 (.t 17 (.t 18 (.t 19 (.t 20 (.t 21 (.t 22 (.t 23 (.t 24 (.t 25 (.t 26 (.t 27 (.t 28 (.t 29 (.t 30 (.t 31 (.t 32 (.t 33 (.t 34 (.t 35 (.t 36 .nil))))))))))))))))))))))))))))))))))))) tab_ok mixed_ok (by kernel_rfl) (.drop (.cons .nil)) ?_
            refine ct c0b ?_
            refine ct c0b ?_
            refine chL 1 rfl rfl ?_
            refine ct c0b ?_
            refine ct c0b ?_
            refine ld1 0 rfl rfl ?_
            refine ct c0b ?_
            refine cf c0a ?_
            refine ct c1b ?_
            refine ct c1b ?_
            refine ld1 0 rfl rfl ?_
            refine ct c1b ?_
            refine ct c1b ?_
            refine chL 1 rfl rfl ?_
            refine ct c1b ?_
            refine cf c1a ?_
            refine ct c2b ?_
            refine ct c2b ?_
            refine chL 2 rfl rfl ?_
            refine ct c2b ?_
            refine cf c2a ?_
            refine ct c3b ?_
            refine ct c3b ?_
            refine chL 2 rfl rfl ?_
            refine ct c3b ?_
            refine cf c3a ?_
            refine ct c4b ?_
            refine ct c4b ?_
            refine chL 3 rfl rfl ?_
            refine ct c4b ?_
            refine cf c4a ?_
            refine ct c5b ?_
            refine ct c5b ?_
            refine chL 3 rfl rfl ?_
            refine ct c5b ?_
            refine cf c5a ?_
            refine ct c6a ?_
            have hq : decQ a.toNat (b1 :: b2 :: b3 :: r) = none := by unfold decQ; rw [hc]; dsimp only; rw [if_neg (by omega), if_neg (by decide), if_neg (by omega), if_neg (by decide), if_pos (by omega)]
            have hd : decP (a :: (b1 :: b2 :: b3 :: r)) = none := by show (if a.toNat < 128 then _ else decQ a.toNat _) = none; rw [if_neg (by omega), hq]
            exact rt (by rw [hv, valid_no (by simp) hd]; rfl)
          have c6a : decide ((191 : Int) < (b3.toNat : Int)) = false := decide_eq_false (by exact c6)
          have c6b : (decide ((191 : Int) < (b3.toNat : Int)) == false) = true := by rw [c6a]; rfl
          refine dr [cl b6 #[.int .u8 (lo : Nat), .int .u8 (hi : Nat)] 87] 99 (.t 0 (.t 1 (.t 2 (.t 3 (.t 4 (.t 5 (.t 6 (.t 7 (.t 8 (.t 9 (.t 10 (.t 11 (.t 12 (.t 13 (.t 14 (.t 15 (.t 16 (.t 17 (.t 18 (.t 19 (.t 20 (.t 21 (.t 22 (.t 23 (.t 24 (.t 25 (.t 26 (.t 27 (.t 28 (.t 29 (.t 30 (.t 31 (.t 32 (.t 33 (.t 34 (.t 35 (.t 36 .nil))))))))))))))))))))))))))))))))))))) tab_ok mixed_ok (by kernel_rfl) (.drop (.cons .nil)) ?_
          refine ct c0b ?_
          refine ct c0b ?_
          refine chL 1 rfl rfl ?_
          refine ct c0b ?_
          refine ct c0b ?_
          refine ld1 0 rfl rfl ?_
          refine ct c0b ?_
          refine cf c0a ?_
          refine ct c1b ?_
          refine ct c1b ?_
          refine ld1 0 rfl rfl ?_
          refine ct c1b ?_
          refine ct c1b ?_
          refine chL 1 rfl rfl ?_
          refine ct c1b ?_
          refine cf c1a ?_
          refine ct c2b ?_
          refine ct c2b ?_
          refine chL 2 rfl rfl ?_
          refine ct c2b ?_
          refine cf c2a ?_
          refine ct c3b ?_
          refine ct c3b ?_
          refine chL 2 rfl rfl ?_
          refine ct c3b ?_
          refine cf c3a ?_
          refine ct c4b ?_
          refine ct c4b ?_
          refine chL 3 rfl rfl ?_
          refine ct c4b ?_
          refine cf c4a ?_
          refine ct c5b ?_
          refine ct c5b ?_
          refine chL 3 rfl rfl ?_
          refine ct c5b ?_
          refine cf c5a ?_
          refine cf c6a ?_
          refine slL 4 (by simp only [List.length_cons]; omega) rfl ?_
          have hq : decQ a.toNat (b1 :: b2 :: b3 :: r) = some (a.toNat % 8 * 262144 + b1.toNat % 64 * 4096 + b2.toNat % 64 * 64 + b3.toNat % 64, 4) := by unfold decQ; rw [hc]; dsimp only; rw [if_neg (by omega), if_neg (by decide), if_neg (by omega), if_neg (by decide), if_neg (by omega)]
          have hd : decP (a :: (b1 :: b2 :: b3 :: r)) = some (a.toNat % 8 * 262144 + b1.toNat % 64 * 4096 + b2.toNat % 64 * 64 + b3.toNat % 64, 4) := by show (if a.toNat < 128 then _ else decQ a.toNat _) = _; rw [if_neg (by omega), hq]
          exact ⟨r, ⟨by rw [hv, valid_yes hd]; rfl, by simp only [List.length_cons] at hx; omega⟩, by simp only [List.length_cons]; omega, ⟨⟨rfl, trivial⟩, .cons (.drop .nil), rfl⟩⟩
end Go.Proofs.YtpegkoklmhccjaaDoor
end
section
namespace Go.Proofs.YtpegkoklmhccjaaDoor
open Go.RowKit Go.Sx
set_option linter.unusedVariables false
/-- an object's pairs: no name twice, names in UTF-8, good values -/
def prsK (S : JV → Bool) : List Bs → List (Bs × JV) → Bool
  | _, [] => true
  | seen, q :: t => !decide (q.1 ∈ seen) && validP q.1 && S q.2 && prsK S (q.1 :: seen) t
def sndG (S : JV → Bool) (deep : Bool) : JV → Bool
  | .mk k i s l p =>
    if k = 0 then decide (i = 0) && decide (s = []) && (l.isEmpty && p.isEmpty)
    else if k = 1 then (decide (i = 0) || decide (i = 1)) && decide (s = []) && (l.isEmpty && p.isEmpty)
    else if k = 2 then decide (-9007199254740991 ≤ i) && decide (i ≤ 9007199254740991) && decide (s = []) && (l.isEmpty && p.isEmpty)
    else if k = 3 then decide (i = 0) && validP s && (l.isEmpty && p.isEmpty)
    else if i ≠ 0 ∨ s ≠ [] ∨ deep = false then false
    else if k = 4 then l.all S && p.isEmpty
    else if k = 5 then prsK S [] p && l.isEmpty
    else false
/-- is a value what some text is? r: how much deeper lists and objects may go -/
def sndD : Nat → JV → Bool
  | 0 => sndG (fun _ => false) false
  | r + 1 => sndG (sndD r) true
theorem St.rdLT3 {w : World} {A : Nat → Prop} {c : CT} {j : JV} (h : HeldT w A c j) (hw : Laid w) : St [] w w [rs laidR, rs (Go.Proofs.YtpegkoklmhccjaaDoor.rdT A c j)] := St.reads fun e he => by
  simp only [List.mem_cons, List.not_mem_nil, or_false] at he
  rcases he with rfl | rfl
  · exact ⟨(rsOk _ w).2 hw, fun k hk => (rsW _ k).1 hk⟩
  · exact ⟨(rsOk _ w).2 h, fun k hk => (rsW _ k).1 hk⟩
theorem emp_len {α β : Type} {l : List α} {l' : List β} (h : l.length = l'.length) : ((l.length : Int) == 0) = l'.isEmpty := by
  cases l' with
  | nil => rw [h]; rfl
  | cons x t => rw [h]; show (((t.length + 1 : Nat) : Int) == 0) = false; rw [beq_eq_false_iff_ne]; omega
set_option maxRecDepth 100000 in
set_option maxHeartbeats 8000000 in
theorem sound_core (S : JV → Bool) (deep : Bool) (d : Nat) (hd8 : deep = decide (d < 8)) (hd : d ≤ 8)
    (hS : d < 8 → ∀ (c : CT) (j : JV) (A : Nat → Prop) (w : World), HeldT w A c j → Laid w → Calls Tryd.prog 30 ([.agg c.cs.toArray, .int .i64 ((d + 1 : Nat) : Int)] : List Value).toArray w fun e w' => e = .returned (.bool (S j)) ∧ Below w.heap.size w w')
    (c : CT) (j : JV) (A : Nat → Prop) (w : World) (h : HeldT w A c j) (hw : Laid w) : Calls Tryd.prog 30 ([.agg c.cs.toArray, .int .i64 (d : Int)] : List Value).toArray w fun e w' => e = .returned (.bool (sndG S deep j)) ∧ Below w.heap.size w w' := by
  have hcs := h.2.cs
  obtain ⟨k, i, s, vl, vp, l, p, rfl⟩ : ∃ k i s vl vp l p, c = CT.mk k i s vl vp l p := by cases c; exact ⟨_, _, _, _, _, _, _, rfl⟩
  obtain ⟨l', p', rfl⟩ : ∃ l' p', j = .mk k i s l' p' := by cases hcs; exact ⟨_, _, rfl⟩
  obtain ⟨hll, hlp, hl, hp, kn⟩ : l.length = l'.length ∧ p.length = p'.length ∧ SlOf vl l.length ∧ SlOf vp p.length ∧ ∀ (n : Nat) (c : Bs × CT) (j : Bs × JV), p[n]? = some c → p'[n]? = some j → c.1 = j.1 := by cases hcs; exact ⟨‹_›, ‹_›, ‹_›, ‹_›, ‹_›⟩
  obtain ⟨k1, a, cap, rfl, k2⟩ := hl
  obtain ⟨k3, a', cap', rfl, k4⟩ := hp
  have hel := emp_len hll
  have hep := emp_len hlp
  refine enterV tab_ok Tryd.func30 rfl Tryd.ntmps30 rfl (St.rdLT3 h hw) ?_
  intro b2
  refine ld1 2 rfl rfl ?_
  by_cases hl0 : ((l.length : Int) == 0) = true
  have hl2 : (((l.length : Int) == 0) == true) = true := by rw [hl0]; rfl
  iterate 2 refine ct hl2 ?_
  refine ld1 2 rfl rfl ?_
  iterate 2 refine ct hl2 ?_
  refine ct hl0 ?_
  have he5 : (l'.isEmpty && p'.isEmpty) = ((p.length : Int) == 0) := by rw [hep]; rw [hel] at hl0; rw [hl0]; rfl
  refine ld1 2 rfl rfl ?_
  refine cq (fun h0 => ?_) (fun h0 => ?_)
  · subst h0
    by_cases hi : i = 0
    · have I1 : (i == 0) = true := by simp [hi]
      have I2 : ((i == 0) == true) = true := by rw [I1]; rfl
      have I3 : ((i == 0) == false) = false := by rw [I1]; rfl
      by_cases hs : s = []
      · have T1 : ((ByteArray.mk s.toArray).toList == (ByteArray.mk #[]).toList) = true := by rw [show (#[] : Array UInt8) = ([] : Bs).toArray from rfl, list_beq]; simp [hs]
        have T2 : (((ByteArray.mk s.toArray).toList == (ByteArray.mk #[]).toList) == true) = true := by rw [T1]; rfl
        have T3 : (((ByteArray.mk s.toArray).toList == (ByteArray.mk #[]).toList) == false) = false := by rw [T1]; rfl
        refine ld1 2 rfl rfl ?_
        refine ct I2 ?_
        refine ct I2 ?_
        refine ld1 2 rfl rfl ?_
        refine ct I2 ?_
        refine ct I1 ?_
        refine ct T2 ?_
        refine ct T1 ?_
        refine rt (congrArg Value.bool (Eq.trans he5.symm ?_))
        unfold sndG; simp [*]
      · have T1 : ((ByteArray.mk s.toArray).toList == (ByteArray.mk #[]).toList) = false := by rw [show (#[] : Array UInt8) = ([] : Bs).toArray from rfl, list_beq]; simp [hs]
        have T2 : (((ByteArray.mk s.toArray).toList == (ByteArray.mk #[]).toList) == true) = false := by rw [T1]; rfl
        have T3 : (((ByteArray.mk s.toArray).toList == (ByteArray.mk #[]).toList) == false) = true := by rw [T1]; rfl
        refine ld1 2 rfl rfl ?_
        refine ct I2 ?_
        refine ct I2 ?_
        refine ld1 2 rfl rfl ?_
        refine ct I2 ?_
        refine ct I1 ?_
        refine cf T2 ?_
        refine cf T1 ?_
        refine rt (congrArg Value.bool (?_))
        unfold sndG; simp [*]
    · have I1 : (i == 0) = false := by simp [hi]
      have I2 : ((i == 0) == true) = false := by rw [I1]; rfl
      have I3 : ((i == 0) == false) = true := by rw [I1]; rfl
      refine ld1 2 rfl rfl ?_
      refine cf I2 ?_
      refine cf I2 ?_
      refine cf I2 ?_
      refine cf I1 ?_
      refine cf rfl ?_
      refine cf rfl ?_
      refine rt (congrArg Value.bool (?_))
      unfold sndG; simp [*]
  refine cq (fun h0b => ?_) (fun h0b => ?_)
  · subst h0b
    by_cases hi : i = 0
    · have I1 : (i == 0) = true := by simp [hi]
      have I2 : ((i == 0) == true) = true := by rw [I1]; rfl
      have I3 : ((i == 0) == false) = false := by rw [I1]; rfl
      by_cases hs : s = []
      · have T1 : ((ByteArray.mk s.toArray).toList == (ByteArray.mk #[]).toList) = true := by rw [show (#[] : Array UInt8) = ([] : Bs).toArray from rfl, list_beq]; simp [hs]
        have T2 : (((ByteArray.mk s.toArray).toList == (ByteArray.mk #[]).toList) == true) = true := by rw [T1]; rfl
        have T3 : (((ByteArray.mk s.toArray).toList == (ByteArray.mk #[]).toList) == false) = false := by rw [T1]; rfl
        refine ld1 2 rfl rfl ?_
        refine cf I3 ?_
        refine cf I3 ?_
        refine cf I3 ?_
        refine ct I1 ?_
        refine ct rfl ?_
        refine ct rfl ?_
        refine ld1 2 rfl rfl ?_
        refine ct rfl ?_
        refine ct rfl ?_
        refine ct T2 ?_
        refine ct T1 ?_
        refine rt (congrArg Value.bool (Eq.trans he5.symm ?_))
        unfold sndG; simp [*]
      · have T1 : ((ByteArray.mk s.toArray).toList == (ByteArray.mk #[]).toList) = false := by rw [show (#[] : Array UInt8) = ([] : Bs).toArray from rfl, list_beq]; simp [hs]
        have T2 : (((ByteArray.mk s.toArray).toList == (ByteArray.mk #[]).toList) == true) = false := by rw [T1]; rfl
        have T3 : (((ByteArray.mk s.toArray).toList == (ByteArray.mk #[]).toList) == false) = true := by rw [T1]; rfl
        refine ld1 2 rfl rfl ?_
        refine cf I3 ?_
        refine cf I3 ?_
        refine cf I3 ?_
        refine ct I1 ?_
        refine ct rfl ?_
        refine ct rfl ?_
        refine ld1 2 rfl rfl ?_
        refine ct rfl ?_
        refine ct rfl ?_
        refine cf T2 ?_
        refine cf T1 ?_
        refine rt (congrArg Value.bool (?_))
        unfold sndG; simp [*]
    · have I1 : (i == 0) = false := by simp [hi]
      have I2 : ((i == 0) == true) = false := by rw [I1]; rfl
      have I3 : ((i == 0) == false) = true := by rw [I1]; rfl
      by_cases hj : i = 1
      · have J1 : (i == 1) = true := by simp [hj]
        have J2 : ((i == 1) == true) = true := by rw [J1]; rfl
        have J3 : ((i == 1) == false) = false := by rw [J1]; rfl
        by_cases hs : s = []
        · have T1 : ((ByteArray.mk s.toArray).toList == (ByteArray.mk #[]).toList) = true := by rw [show (#[] : Array UInt8) = ([] : Bs).toArray from rfl, list_beq]; simp [hs]
          have T2 : (((ByteArray.mk s.toArray).toList == (ByteArray.mk #[]).toList) == true) = true := by rw [T1]; rfl
          have T3 : (((ByteArray.mk s.toArray).toList == (ByteArray.mk #[]).toList) == false) = false := by rw [T1]; rfl
          refine ld1 2 rfl rfl ?_
          refine ct I3 ?_
          refine ct I3 ?_
          refine ld1 2 rfl rfl ?_
          refine ct I3 ?_
          refine cf I1 ?_
          refine ct J2 ?_
          refine ct J2 ?_
          refine ld1 2 rfl rfl ?_
          refine ct J2 ?_
          refine ct J1 ?_
          refine ct T2 ?_
          refine ct T1 ?_
          refine rt (congrArg Value.bool (Eq.trans he5.symm ?_))
          unfold sndG; simp [*]
        · have T1 : ((ByteArray.mk s.toArray).toList == (ByteArray.mk #[]).toList) = false := by rw [show (#[] : Array UInt8) = ([] : Bs).toArray from rfl, list_beq]; simp [hs]
          have T2 : (((ByteArray.mk s.toArray).toList == (ByteArray.mk #[]).toList) == true) = false := by rw [T1]; rfl
          have T3 : (((ByteArray.mk s.toArray).toList == (ByteArray.mk #[]).toList) == false) = true := by rw [T1]; rfl
          refine ld1 2 rfl rfl ?_
          refine ct I3 ?_
          refine ct I3 ?_
          refine ld1 2 rfl rfl ?_
          refine ct I3 ?_
          refine cf I1 ?_
          refine ct J2 ?_
          refine ct J2 ?_
          refine ld1 2 rfl rfl ?_
          refine ct J2 ?_
          refine ct J1 ?_
          refine cf T2 ?_
          refine cf T1 ?_
          refine rt (congrArg Value.bool (?_))
          unfold sndG; simp [*]
      · have J1 : (i == 1) = false := by simp [hj]
        have J2 : ((i == 1) == true) = false := by rw [J1]; rfl
        have J3 : ((i == 1) == false) = true := by rw [J1]; rfl
        refine ld1 2 rfl rfl ?_
        refine ct I3 ?_
        refine ct I3 ?_
        refine ld1 2 rfl rfl ?_
        refine ct I3 ?_
        refine cf I1 ?_
        refine cf J2 ?_
        refine cf J2 ?_
        refine cf J2 ?_
        refine cf J1 ?_
        refine cf rfl ?_
        refine cf rfl ?_
        refine rt (congrArg Value.bool (?_))
        unfold sndG; simp [*]
  refine cq (fun h0c => ?_) (fun h0c => ?_)
  · subst h0c
    by_cases hg : i ≥ -9007199254740991
    · have G1 : decide (i ≥ -9007199254740991) = true := decide_eq_true hg
      have G2 : (decide (i ≥ -9007199254740991) == true) = true := by rw [G1]; rfl
      have G3 : (decide (i ≥ -9007199254740991) == false) = false := by rw [G1]; rfl
      by_cases hl : i ≤ 9007199254740991
      · have L1 : decide (i ≤ 9007199254740991) = true := decide_eq_true hl
        have L2 : (decide (i ≤ 9007199254740991) == true) = true := by rw [L1]; rfl
        have L3 : (decide (i ≤ 9007199254740991) == false) = false := by rw [L1]; rfl
        by_cases hs : s = []
        · have T1 : ((ByteArray.mk s.toArray).toList == (ByteArray.mk #[]).toList) = true := by rw [show (#[] : Array UInt8) = ([] : Bs).toArray from rfl, list_beq]; simp [hs]
          have T2 : (((ByteArray.mk s.toArray).toList == (ByteArray.mk #[]).toList) == true) = true := by rw [T1]; rfl
          have T3 : (((ByteArray.mk s.toArray).toList == (ByteArray.mk #[]).toList) == false) = false := by rw [T1]; rfl
          refine ld1 2 rfl rfl ?_
          refine ct G2 ?_
          refine ct G2 ?_
          refine ld1 2 rfl rfl ?_
          refine ct G2 ?_
          refine ct G1 ?_
          refine ct L2 ?_
          refine ct L2 ?_
          refine ld1 2 rfl rfl ?_
          refine ct L2 ?_
          refine ct L1 ?_
          refine ct T2 ?_
          refine ct T1 ?_
          refine rt (congrArg Value.bool (Eq.trans he5.symm ?_))
          unfold sndG; simp [*]
        · have T1 : ((ByteArray.mk s.toArray).toList == (ByteArray.mk #[]).toList) = false := by rw [show (#[] : Array UInt8) = ([] : Bs).toArray from rfl, list_beq]; simp [hs]
          have T2 : (((ByteArray.mk s.toArray).toList == (ByteArray.mk #[]).toList) == true) = false := by rw [T1]; rfl
          have T3 : (((ByteArray.mk s.toArray).toList == (ByteArray.mk #[]).toList) == false) = true := by rw [T1]; rfl
          refine ld1 2 rfl rfl ?_
          refine ct G2 ?_
          refine ct G2 ?_
          refine ld1 2 rfl rfl ?_
          refine ct G2 ?_
          refine ct G1 ?_
          refine ct L2 ?_
          refine ct L2 ?_
          refine ld1 2 rfl rfl ?_
          refine ct L2 ?_
          refine ct L1 ?_
          refine cf T2 ?_
          refine cf T1 ?_
          refine rt (congrArg Value.bool (?_))
          unfold sndG; simp [*]
      · have L1 : decide (i ≤ 9007199254740991) = false := decide_eq_false hl
        have L2 : (decide (i ≤ 9007199254740991) == true) = false := by rw [L1]; rfl
        have L3 : (decide (i ≤ 9007199254740991) == false) = true := by rw [L1]; rfl
        refine ld1 2 rfl rfl ?_
        refine ct G2 ?_
        refine ct G2 ?_
        refine ld1 2 rfl rfl ?_
        refine ct G2 ?_
        refine ct G1 ?_
        refine cf L2 ?_
        refine cf L2 ?_
        refine cf L2 ?_
        refine cf L1 ?_
        refine cf rfl ?_
        refine cf rfl ?_
        refine rt (congrArg Value.bool (?_))
        unfold sndG; simp [*]
    · have G1 : decide (i ≥ -9007199254740991) = false := decide_eq_false hg
      have G2 : (decide (i ≥ -9007199254740991) == true) = false := by rw [G1]; rfl
      have G3 : (decide (i ≥ -9007199254740991) == false) = true := by rw [G1]; rfl
      refine ld1 2 rfl rfl ?_
      refine cf G2 ?_
      refine cf G2 ?_
      refine cf G2 ?_
      refine cf G1 ?_
      refine cf rfl ?_
      refine cf rfl ?_
      refine cf rfl ?_
      refine cf rfl ?_
      refine cf rfl ?_
      refine cf rfl ?_
      refine rt (congrArg Value.bool (?_))
      unfold sndG; simp [*]
  refine cq (fun h0d => ?_) (fun h0d => ?_)
  · subst h0d
    by_cases hi : i = 0
    · have I1 : (i == 0) = true := by simp [hi]
      have I2 : ((i == 0) == true) = true := by rw [I1]; rfl
      have I3 : ((i == 0) == false) = false := by rw [I1]; rfl
      by_cases hy : validP s = true
      · have Y1 : validP s = true := by simpa using hy
        have Y2 : (validP s == true) = true := by rw [Y1]; rfl
        refine ld1 2 rfl rfl ?_
        refine ct I2 ?_
        refine ct I2 ?_
        refine ld1 2 rfl rfl ?_
        refine ct I2 ?_
        refine cvs (fun w hs => valid_any s w (hs.res (k := 0) rfl)) ?_
        refine ct I1 ?_
        refine ct Y2 ?_
        refine ct Y1 ?_
        refine rt (congrArg Value.bool (Eq.trans he5.symm ?_))
        unfold sndG; simp [*]
      · have Y1 : validP s = false := by simpa using hy
        have Y2 : (validP s == true) = false := by rw [Y1]; rfl
        refine ld1 2 rfl rfl ?_
        refine ct I2 ?_
        refine ct I2 ?_
        refine ld1 2 rfl rfl ?_
        refine ct I2 ?_
        refine cvs (fun w hs => valid_any s w (hs.res (k := 0) rfl)) ?_
        refine ct I1 ?_
        refine cf Y2 ?_
        refine cf Y1 ?_
        refine rt (congrArg Value.bool (?_))
        unfold sndG; simp [*]
    · have I1 : (i == 0) = false := by simp [hi]
      have I2 : ((i == 0) == true) = false := by rw [I1]; rfl
      have I3 : ((i == 0) == false) = true := by rw [I1]; rfl
      refine ld1 2 rfl rfl ?_
      refine cf I2 ?_
      refine cf I2 ?_
      refine cf I2 ?_
      refine cf I1 ?_
      refine cf rfl ?_
      refine cf rfl ?_
      refine rt (congrArg Value.bool (?_))
      unfold sndG; simp [*]
  rotate_left
  have hl0 : ((l.length : Int) == 0) = false := by simpa using hl0
  have hl2 : (((l.length : Int) == 0) == true) = false := by rw [hl0]; rfl
  iterate 4 refine cf hl2 ?_
  refine cf hl0 ?_
  have he5 : (l'.isEmpty && p'.isEmpty) = false := by rw [hel] at hl0; rw [hl0]; rfl
  refine ld1 2 rfl rfl ?_
  refine cq (fun h0 => ?_) (fun h0 => ?_)
  · subst h0
    by_cases hi : i = 0
    · have I1 : (i == 0) = true := by simp [hi]
      have I2 : ((i == 0) == true) = true := by rw [I1]; rfl
      have I3 : ((i == 0) == false) = false := by rw [I1]; rfl
      by_cases hs : s = []
      · have T1 : ((ByteArray.mk s.toArray).toList == (ByteArray.mk #[]).toList) = true := by rw [show (#[] : Array UInt8) = ([] : Bs).toArray from rfl, list_beq]; simp [hs]
        have T2 : (((ByteArray.mk s.toArray).toList == (ByteArray.mk #[]).toList) == true) = true := by rw [T1]; rfl
        have T3 : (((ByteArray.mk s.toArray).toList == (ByteArray.mk #[]).toList) == false) = false := by rw [T1]; rfl
        refine ld1 2 rfl rfl ?_
        refine ct I2 ?_
        refine ct I2 ?_
        refine ld1 2 rfl rfl ?_
        refine ct I2 ?_
        refine ct I1 ?_
        refine ct T2 ?_
        refine ct T1 ?_
        refine rt (congrArg Value.bool (Eq.trans he5.symm ?_))
        unfold sndG; simp [*]
      · have T1 : ((ByteArray.mk s.toArray).toList == (ByteArray.mk #[]).toList) = false := by rw [show (#[] : Array UInt8) = ([] : Bs).toArray from rfl, list_beq]; simp [hs]
        have T2 : (((ByteArray.mk s.toArray).toList == (ByteArray.mk #[]).toList) == true) = false := by rw [T1]; rfl
        have T3 : (((ByteArray.mk s.toArray).toList == (ByteArray.mk #[]).toList) == false) = true := by rw [T1]; rfl
        refine ld1 2 rfl rfl ?_
        refine ct I2 ?_
        refine ct I2 ?_
        refine ld1 2 rfl rfl ?_
        refine ct I2 ?_
        refine ct I1 ?_
        refine cf T2 ?_
        refine cf T1 ?_
        refine rt (congrArg Value.bool (?_))
        unfold sndG; simp [*]
    · have I1 : (i == 0) = false := by simp [hi]
      have I2 : ((i == 0) == true) = false := by rw [I1]; rfl
      have I3 : ((i == 0) == false) = true := by rw [I1]; rfl
      refine ld1 2 rfl rfl ?_
      refine cf I2 ?_
      refine cf I2 ?_
      refine cf I2 ?_
      refine cf I1 ?_
      refine cf rfl ?_
      refine cf rfl ?_
      refine rt (congrArg Value.bool (?_))
      unfold sndG; simp [*]
  refine cq (fun h0b => ?_) (fun h0b => ?_)
  · subst h0b
    by_cases hi : i = 0
    · have I1 : (i == 0) = true := by simp [hi]
      have I2 : ((i == 0) == true) = true := by rw [I1]; rfl
      have I3 : ((i == 0) == false) = false := by rw [I1]; rfl
      by_cases hs : s = []
      · have T1 : ((ByteArray.mk s.toArray).toList == (ByteArray.mk #[]).toList) = true := by rw [show (#[] : Array UInt8) = ([] : Bs).toArray from rfl, list_beq]; simp [hs]
        have T2 : (((ByteArray.mk s.toArray).toList == (ByteArray.mk #[]).toList) == true) = true := by rw [T1]; rfl
        have T3 : (((ByteArray.mk s.toArray).toList == (ByteArray.mk #[]).toList) == false) = false := by rw [T1]; rfl
        refine ld1 2 rfl rfl ?_
        refine cf I3 ?_
        refine cf I3 ?_
        refine cf I3 ?_
        refine ct I1 ?_
        refine ct rfl ?_
        refine ct rfl ?_
        refine ld1 2 rfl rfl ?_
        refine ct rfl ?_
        refine ct rfl ?_
        refine ct T2 ?_
        refine ct T1 ?_
        refine rt (congrArg Value.bool (Eq.trans he5.symm ?_))
        unfold sndG; simp [*]
      · have T1 : ((ByteArray.mk s.toArray).toList == (ByteArray.mk #[]).toList) = false := by rw [show (#[] : Array UInt8) = ([] : Bs).toArray from rfl, list_beq]; simp [hs]
        have T2 : (((ByteArray.mk s.toArray).toList == (ByteArray.mk #[]).toList) == true) = false := by rw [T1]; rfl
        have T3 : (((ByteArray.mk s.toArray).toList == (ByteArray.mk #[]).toList) == false) = true := by rw [T1]; rfl
        refine ld1 2 rfl rfl ?_
        refine cf I3 ?_
        refine cf I3 ?_
        refine cf I3 ?_
        refine ct I1 ?_
        refine ct rfl ?_
        refine ct rfl ?_
        refine ld1 2 rfl rfl ?_
        refine ct rfl ?_
        refine ct rfl ?_
        refine cf T2 ?_
        refine cf T1 ?_
        refine rt (congrArg Value.bool (?_))
        unfold sndG; simp [*]
    · have I1 : (i == 0) = false := by simp [hi]
      have I2 : ((i == 0) == true) = false := by rw [I1]; rfl
      have I3 : ((i == 0) == false) = true := by rw [I1]; rfl
      by_cases hj : i = 1
      · have J1 : (i == 1) = true := by simp [hj]
        have J2 : ((i == 1) == true) = true := by rw [J1]; rfl
        have J3 : ((i == 1) == false) = false := by rw [J1]; rfl
        by_cases hs : s = []
        · have T1 : ((ByteArray.mk s.toArray).toList == (ByteArray.mk #[]).toList) = true := by rw [show (#[] : Array UInt8) = ([] : Bs).toArray from rfl, list_beq]; simp [hs]
          have T2 : (((ByteArray.mk s.toArray).toList == (ByteArray.mk #[]).toList) == true) = true := by rw [T1]; rfl
          have T3 : (((ByteArray.mk s.toArray).toList == (ByteArray.mk #[]).toList) == false) = false := by rw [T1]; rfl
          refine ld1 2 rfl rfl ?_
          refine ct I3 ?_
          refine ct I3 ?_
          refine ld1 2 rfl rfl ?_
          refine ct I3 ?_
          refine cf I1 ?_
          refine ct J2 ?_
          refine ct J2 ?_
          refine ld1 2 rfl rfl ?_
          refine ct J2 ?_
          refine ct J1 ?_
          refine ct T2 ?_
          refine ct T1 ?_
          refine rt (congrArg Value.bool (Eq.trans he5.symm ?_))
          unfold sndG; simp [*]
        · have T1 : ((ByteArray.mk s.toArray).toList == (ByteArray.mk #[]).toList) = false := by rw [show (#[] : Array UInt8) = ([] : Bs).toArray from rfl, list_beq]; simp [hs]
          have T2 : (((ByteArray.mk s.toArray).toList == (ByteArray.mk #[]).toList) == true) = false := by rw [T1]; rfl
          have T3 : (((ByteArray.mk s.toArray).toList == (ByteArray.mk #[]).toList) == false) = true := by rw [T1]; rfl
          refine ld1 2 rfl rfl ?_
          refine ct I3 ?_
          refine ct I3 ?_
          refine ld1 2 rfl rfl ?_
          refine ct I3 ?_
          refine cf I1 ?_
          refine ct J2 ?_
          refine ct J2 ?_
          refine ld1 2 rfl rfl ?_
          refine ct J2 ?_
          refine ct J1 ?_
          refine cf T2 ?_
          refine cf T1 ?_
          refine rt (congrArg Value.bool (?_))
          unfold sndG; simp [*]
      · have J1 : (i == 1) = false := by simp [hj]
        have J2 : ((i == 1) == true) = false := by rw [J1]; rfl
        have J3 : ((i == 1) == false) = true := by rw [J1]; rfl
        refine ld1 2 rfl rfl ?_
        refine ct I3 ?_
        refine ct I3 ?_
        refine ld1 2 rfl rfl ?_
        refine ct I3 ?_
        refine cf I1 ?_
        refine cf J2 ?_
        refine cf J2 ?_
        refine cf J2 ?_
        refine cf J1 ?_
        refine cf rfl ?_
        refine cf rfl ?_
        refine rt (congrArg Value.bool (?_))
        unfold sndG; simp [*]
  refine cq (fun h0c => ?_) (fun h0c => ?_)
  · subst h0c
    by_cases hg : i ≥ -9007199254740991
    · have G1 : decide (i ≥ -9007199254740991) = true := decide_eq_true hg
      have G2 : (decide (i ≥ -9007199254740991) == true) = true := by rw [G1]; rfl
      have G3 : (decide (i ≥ -9007199254740991) == false) = false := by rw [G1]; rfl
      by_cases hl : i ≤ 9007199254740991
      · have L1 : decide (i ≤ 9007199254740991) = true := decide_eq_true hl
        have L2 : (decide (i ≤ 9007199254740991) == true) = true := by rw [L1]; rfl
        have L3 : (decide (i ≤ 9007199254740991) == false) = false := by rw [L1]; rfl
        by_cases hs : s = []
        · have T1 : ((ByteArray.mk s.toArray).toList == (ByteArray.mk #[]).toList) = true := by rw [show (#[] : Array UInt8) = ([] : Bs).toArray from rfl, list_beq]; simp [hs]
          have T2 : (((ByteArray.mk s.toArray).toList == (ByteArray.mk #[]).toList) == true) = true := by rw [T1]; rfl
          have T3 : (((ByteArray.mk s.toArray).toList == (ByteArray.mk #[]).toList) == false) = false := by rw [T1]; rfl
          refine ld1 2 rfl rfl ?_
          refine ct G2 ?_
          refine ct G2 ?_
          refine ld1 2 rfl rfl ?_
          refine ct G2 ?_
          refine ct G1 ?_
          refine ct L2 ?_
          refine ct L2 ?_
          refine ld1 2 rfl rfl ?_
          refine ct L2 ?_
          refine ct L1 ?_
          refine ct T2 ?_
          refine ct T1 ?_
          refine rt (congrArg Value.bool (Eq.trans he5.symm ?_))
          unfold sndG; simp [*]
        · have T1 : ((ByteArray.mk s.toArray).toList == (ByteArray.mk #[]).toList) = false := by rw [show (#[] : Array UInt8) = ([] : Bs).toArray from rfl, list_beq]; simp [hs]
          have T2 : (((ByteArray.mk s.toArray).toList == (ByteArray.mk #[]).toList) == true) = false := by rw [T1]; rfl
          have T3 : (((ByteArray.mk s.toArray).toList == (ByteArray.mk #[]).toList) == false) = true := by rw [T1]; rfl
          refine ld1 2 rfl rfl ?_
          refine ct G2 ?_
          refine ct G2 ?_
          refine ld1 2 rfl rfl ?_
          refine ct G2 ?_
          refine ct G1 ?_
          refine ct L2 ?_
          refine ct L2 ?_
          refine ld1 2 rfl rfl ?_
          refine ct L2 ?_
          refine ct L1 ?_
          refine cf T2 ?_
          refine cf T1 ?_
          refine rt (congrArg Value.bool (?_))
          unfold sndG; simp [*]
      · have L1 : decide (i ≤ 9007199254740991) = false := decide_eq_false hl
        have L2 : (decide (i ≤ 9007199254740991) == true) = false := by rw [L1]; rfl
        have L3 : (decide (i ≤ 9007199254740991) == false) = true := by rw [L1]; rfl
        refine ld1 2 rfl rfl ?_
        refine ct G2 ?_
        refine ct G2 ?_
        refine ld1 2 rfl rfl ?_
        refine ct G2 ?_
        refine ct G1 ?_
        refine cf L2 ?_
        refine cf L2 ?_
        refine cf L2 ?_
        refine cf L1 ?_
        refine cf rfl ?_
        refine cf rfl ?_
        refine rt (congrArg Value.bool (?_))
        unfold sndG; simp [*]
    · have G1 : decide (i ≥ -9007199254740991) = false := decide_eq_false hg
      have G2 : (decide (i ≥ -9007199254740991) == true) = false := by rw [G1]; rfl
      have G3 : (decide (i ≥ -9007199254740991) == false) = true := by rw [G1]; rfl
      refine ld1 2 rfl rfl ?_
      refine cf G2 ?_
      refine cf G2 ?_
      refine cf G2 ?_
      refine cf G1 ?_
      refine cf rfl ?_
      refine cf rfl ?_
      refine cf rfl ?_
      refine cf rfl ?_
      refine cf rfl ?_
      refine cf rfl ?_
      refine rt (congrArg Value.bool (?_))
      unfold sndG; simp [*]
  refine cq (fun h0d => ?_) (fun h0d => ?_)
  · subst h0d
    by_cases hi : i = 0
    · have I1 : (i == 0) = true := by simp [hi]
      have I2 : ((i == 0) == true) = true := by rw [I1]; rfl
      have I3 : ((i == 0) == false) = false := by rw [I1]; rfl
      by_cases hy : validP s = true
      · have Y1 : validP s = true := by simpa using hy
        have Y2 : (validP s == true) = true := by rw [Y1]; rfl
        refine ld1 2 rfl rfl ?_
        refine ct I2 ?_
        refine ct I2 ?_
        refine ld1 2 rfl rfl ?_
        refine ct I2 ?_
        refine cvs (fun w hs => valid_any s w (hs.res (k := 0) rfl)) ?_
        refine ct I1 ?_
        refine ct Y2 ?_
        refine ct Y1 ?_
        refine rt (congrArg Value.bool (Eq.trans he5.symm ?_))
        unfold sndG; simp [*]
      · have Y1 : validP s = false := by simpa using hy
        have Y2 : (validP s == true) = false := by rw [Y1]; rfl
        refine ld1 2 rfl rfl ?_
        refine ct I2 ?_
        refine ct I2 ?_
        refine ld1 2 rfl rfl ?_
        refine ct I2 ?_
        refine cvs (fun w hs => valid_any s w (hs.res (k := 0) rfl)) ?_
        refine ct I1 ?_
        refine cf Y2 ?_
        refine cf Y1 ?_
        refine rt (congrArg Value.bool (?_))
        unfold sndG; simp [*]
    · have I1 : (i == 0) = false := by simp [hi]
      have I2 : ((i == 0) == true) = false := by rw [I1]; rfl
      have I3 : ((i == 0) == false) = true := by rw [I1]; rfl
      refine ld1 2 rfl rfl ?_
      refine cf I2 ?_
      refine cf I2 ?_
      refine cf I2 ?_
      refine cf I1 ?_
      refine cf rfl ?_
      refine cf rfl ?_
      refine rt (congrArg Value.bool (?_))
      unfold sndG; simp [*]
  all_goals
    clear he5
    have hsp : sndG S deep (.mk k i s l' p') = if i ≠ 0 ∨ s ≠ [] ∨ deep = false then false else if k = 4 then l'.all S && p'.isEmpty else if k = 5 then prsK S [] p' && l'.isEmpty else false := by
      unfold sndG; dsimp only; rw [if_neg h0, if_neg h0b, if_neg h0c, if_neg h0d]
    rw [hsp]
    refine ld1 2 rfl rfl ?_
    by_cases hi : i = 0
    case neg =>
      have N1 : (i != 0) = true := by simp [hi]
      have N3 : ((i != 0) == false) = false := by rw [N1]; rfl
      refine cf N3 ?_
      refine cf N3 ?_
      refine cf N3 ?_
      refine ct N1 ?_
      refine cf rfl ?_
      refine cf rfl ?_
      refine ct rfl ?_
      refine ct rfl ?_
      exact rt (congrArg Value.bool (by rw [if_pos (by simp [hi])]))
    by_cases hs : s = []
    case neg =>
      have N1 : (i != 0) = false := by simp [hi]
      have N3 : ((i != 0) == false) = true := by rw [N1]; rfl
      have U1 : (!((ByteArray.mk s.toArray).toList == (ByteArray.mk #[]).toList)) = true := by rw [show (#[] : Array UInt8) = ([] : Bs).toArray from rfl, list_beq]; simp [hs]
      have U3 : ((!((ByteArray.mk s.toArray).toList == (ByteArray.mk #[]).toList)) == false) = false := by rw [U1]; rfl
      refine ct N3 ?_
      refine ct N3 ?_
      refine ld1 2 rfl rfl ?_
      refine ct N3 ?_
      refine cf N1 ?_
      refine cf U3 ?_
      refine cf U3 ?_
      refine ct U1 ?_
      refine ct rfl ?_
      exact rt (congrArg Value.bool (by rw [if_pos (by simp [hs])]))
    by_cases hdd : (d : Int) ≥ 8
    case pos =>
      have N1 : (i != 0) = false := by simp [hi]
      have N3 : ((i != 0) == false) = true := by rw [N1]; rfl
      have U1 : (!((ByteArray.mk s.toArray).toList == (ByteArray.mk #[]).toList)) = false := by rw [show (#[] : Array UInt8) = ([] : Bs).toArray from rfl, list_beq]; simp [hs]
      have U3 : ((!((ByteArray.mk s.toArray).toList == (ByteArray.mk #[]).toList)) == false) = true := by rw [U1]; rfl
      have D1 : decide ((d : Int) ≥ 8) = true := decide_eq_true hdd
      have D3 : (decide ((d : Int) ≥ 8) == false) = false := by rw [D1]; rfl
      refine ct N3 ?_
      refine ct N3 ?_
      refine ld1 2 rfl rfl ?_
      refine ct N3 ?_
      refine cf N1 ?_
      refine ct U3 ?_
      refine ct U3 ?_
      refine cf U1 ?_
      refine ct D1 ?_
      exact rt (congrArg Value.bool (by rw [if_pos (by rw [hd8]; simp; omega)]))
    have N1 : (i != 0) = false := by simp [hi]
    have N3 : ((i != 0) == false) = true := by rw [N1]; rfl
    have U1 : (!((ByteArray.mk s.toArray).toList == (ByteArray.mk #[]).toList)) = false := by rw [show (#[] : Array UInt8) = ([] : Bs).toArray from rfl, list_beq]; simp [hs]
    have U3 : ((!((ByteArray.mk s.toArray).toList == (ByteArray.mk #[]).toList)) == false) = true := by rw [U1]; rfl
    have D1 : decide ((d : Int) ≥ 8) = false := decide_eq_false hdd
    have D3 : (decide ((d : Int) ≥ 8) == false) = true := by rw [D1]; rfl
    refine ct N3 ?_
    refine ct N3 ?_
    refine ld1 2 rfl rfl ?_
    refine ct N3 ?_
    refine cf N1 ?_
    refine ct U3 ?_
    refine ct U3 ?_
    refine cf U1 ?_
    refine cf D1 ?_
    have hd7 : d < 8 := by omega
    have hdt : deep = true := by rw [hd8]; exact decide_eq_true hd7
    have hng : ¬ (i ≠ 0 ∨ s ≠ [] ∨ deep = false) := by rw [hi, hs, hdt]; simp
    rw [if_neg hng]
    have hS := hS hd7
    refine ld1 2 rfl rfl ?_
    refine cq (fun h4 => ?_) (fun h4 => ?_)
    · rw [if_pos h4]
      refine ld1 2 rfl rfl ?_
      refine lp tab_ok (fun q : Nat => q ≤ l.length ∧ (l'.take q).all S = true) (fun q => ⟨[(1, .int .i64 (d : Int)), (2, pj b2), (102, .slice a l.length cap), (103, .int .i64 l.length), (104, .int .i64 (q : Nat))], [rs laidR, rs (rdT A (.mk k i s (.slice a l.length cap) (.slice a' p.length cap') l p) (.mk k i s l' p')), cl b2 (vcl k i s (.slice a l.length cap) (.slice a' p.length cap')).toArray TV], []⟩) (fun q => l.length - q) 0 ⟨Nat.zero_le _, rfl⟩ ⟨⟨rfl, rfl, rfl, rfl, rfl, trivial⟩, .cons (.cons (.cons .nil)), rfl⟩ ?_
      rintro q ⟨hq, hall⟩
      refine cd (fun hql => ?_) (fun hql => ?_)
      · have hql : q < l.length := by omega
        have hc0 : l[q]? = some l[q] := List.getElem?_eq_getElem hql
        have hj0 : l'[q]? = some (l'[q]'(by omega)) := List.getElem?_eq_getElem (by omega)
        generalize l[q] = c0 at hc0
        generalize l'[q]'(by omega) = j0 at hj0
        obtain ⟨b, o, rfl⟩ := k2 (by omega)
        have hld : ∀ w, HeldT w A (.mk k i s (.slice (some ⟨b, o, none⟩) l.length cap) (.slice a' p.length cap') l p) (.mk k i s l' p') → w.rangeAt b (nad o (nmu ((q : Nat) : Int).toNat 5)) c0.cs.toArray.toList := fun w h => by
          rw [nad_eq, nmu_eq, Int.toNat_natCast]; exact h.2.item rfl hc0
        have hcs0 : CS c0 j0 := by cases hcs with | mk _ _ _ _ kl _ _ => exact kl q c0 j0 hc0 hj0
        refine ⟨by omega, by omega, ?_⟩
        refine .mk c0.cs.toArray (by rw [List.size_toArray, CT.cs5]) (fun w hs => hld w (hs.res (k := 1) rfl)) ?_
        intro b7
        refine sN 3 rfl (by rw [List.size_toArray, CT.cs5]; rfl) (by simpa using hcs0.one) ?_ (by rw [List.size_toArray, CT.cs5]; kernel_rfl)
        refine ldN 3 rfl (by rw [List.size_toArray, CT.cs5]) ?_
        refine .as ((d + 1 : Nat) : Int) (by omega) (by simp only [mn]; omega) (by simp only [mx]; omega) ?_
        have hcall := fun (w : World) (h : HeldT w A (.mk k i s (.slice (some ⟨b, o, none⟩) l.length cap) (.slice a' p.length cap') l p) (.mk k i s l' p')) (hw : Laid w) => hS c0 j0 A w ⟨h.1, h.2.kid hc0 hj0⟩ hw
        cases hSj : S j0 with
        | true =>
          rw [hSj] at hcall
          refine cvs (fun w hs => hcall w (hs.res (k := 1) rfl) (hs.res (k := 0) rfl)) ?_
          refine cf rfl ?_
          refine .as ((q + 1 : Nat) : Int) (by simp) (by simp only [mn]; omega) (by simp only [mx]; unfold maxLen at k1; omega) ?_
          exact ⟨q + 1, ⟨by omega, by rw [List.take_add_one, hj0, List.all_append, hall]; simp [hSj]⟩, by omega, ⟨⟨rfl, rfl, rfl, rfl, rfl, trivial⟩, .cons (.cons (.cons (.drop .nil))), rfl⟩⟩
        | false =>
          rw [hSj] at hcall
          refine cvs (fun w hs => hcall w (hs.res (k := 1) rfl) (hs.res (k := 0) rfl)) ?_
          refine ct rfl ?_
          have hno : l'.all S = false := by
            rw [List.all_eq_false]
            exact ⟨j0, List.mem_of_getElem? hj0, by rw [hSj]; simp⟩
          exact rt (congrArg Value.bool (by rw [hno]; rfl))
      · have hqe : q = l'.length := by omega
        rw [hqe, List.take_length] at hall
        refine ld1 2 rfl rfl ?_
        exact rt (congrArg Value.bool (by rw [hall]; exact hep))
    · rw [if_neg h4]
      refine cq (fun h5 => ?_) (fun h5 => ?_)
      · rw [if_pos h5]
        refine mkm (keS : Bs → Value) (fun bm => ?_)
        refine ld1 2 rfl rfl ?_
        refine lp tab_ok (fun x : Nat × List Bs × Es Bs × Nat => x.1 ≤ p.length ∧ prsK S [] p' = prsK S x.2.1 (p'.drop x.1) ∧ SeenIs x.2.2.1 x.2.1) (fun x => ⟨[(1, .int .i64 (d : Int)), (2, pj b2), (8, .map (some bm)), (122, .slice a' p.length cap'), (123, .int .i64 p.length), (124, .int .i64 (x.1 : Nat))], [rs laidR, rs (rdT A (.mk k i s (.slice a l.length cap) (.slice a' p.length cap') l p) (.mk k i s l' p')), cl b2 (vcl k i s (.slice a l.length cap) (.slice a' p.length cap')).toArray TV, me bm keS x.2.2.1 x.2.2.2], []⟩) (fun x => p.length - x.1) (0, [], [], 0) ⟨Nat.zero_le _, rfl, fun k => by simp [getS]; rfl⟩ ⟨⟨rfl, rfl, rfl, rfl, rfl, rfl, trivial⟩, .cons (.cons (.cons (.cons .nil))), rfl⟩ ?_
        rintro ⟨q, seen, es, clk⟩ ⟨hq, hall, hsn⟩
        simp only at hq hall hsn
        refine cd (fun hql => ?_) (fun hql => ?_)
        · have hql : q < p.length := by simp only at hql; omega
          have hc0 : p[q]? = some p[q] := List.getElem?_eq_getElem hql
          have hj0 : p'[q]? = some (p'[q]'(by omega)) := List.getElem?_eq_getElem (by omega)
          have hdr : p'.drop q = p'[q]'(by omega) :: p'.drop (q + 1) := List.drop_eq_getElem_cons (by omega)
          generalize p[q] = c0 at hc0
          generalize p'[q]'(by omega) = j0 at hj0 hdr
          have hnm := kn q c0 j0 hc0 hj0
          have hcs0 : CS c0.2 j0.2 := by cases hcs with | mk _ _ _ _ _ _ kp => exact kp q c0 j0 hc0 hj0
          obtain ⟨b, o, rfl⟩ := k4 (by omega)
          obtain ⟨name, c1⟩ := c0
          obtain ⟨nj, j1⟩ := j0
          obtain rfl : name = nj := hnm
          dsimp only at hcs0
          rw [hdr] at hall
          have hall2 : prsK S [] p' = (!decide (name ∈ seen) && validP name && S j1 && prsK S (name :: seen) (p'.drop (q + 1))) := hall
          have hone := hcs0.one
          have hcall := fun (w : World) (h : HeldT w A (.mk k i s (.slice a l.length cap) (.slice (some ⟨b, o, none⟩) p.length cap') l p) (.mk k i s l' p')) (hw : Laid w) => hS c1 j1 A w ⟨h.1, h.2.kidp hc0 hj0⟩ hw
          obtain ⟨ck, ci, cs, cvl, cvp, cl', cp', rfl⟩ : ∃ k i s vl vp l p, c1 = CT.mk k i s vl vp l p := by cases c1; exact ⟨_, _, _, _, _, _, _, rfl⟩
          have hld : ∀ w, HeldT w A (.mk k i s (.slice a l.length cap) (.slice (some ⟨b, o, none⟩) p.length cap') l p) (.mk k i s l' p') → w.rangeAt b (nad o (nmu ((q : Nat) : Int).toNat 6)) #[sj name, .int .i64 ck, .int .i64 ci, sj cs, cvl, cvp].toList := fun w h => by
            rw [nad_eq, nmu_eq, Int.toNat_natCast]; exact h.2.pair rfl hc0
          refine ⟨by simp only; omega, by simp only; omega, ?_⟩
          refine .mk #[sj name, .int .i64 ck, .int .i64 ci, sj cs, cvl, cvp] rfl (fun w hs => hld w (hs.res (k := 1) rfl)) ?_
          intro b10
          have hone6 : (#[sj name, .int .i64 ck, .int .i64 ci, sj cs, cvl, cvp] : Array Value).toList.all (·.oneCell') = true := by
            show ((sj name).oneCell' && (vcl ck ci cs cvl cvp).all (·.oneCell')) = true
            rw [show (vcl ck ci cs cvl cvp).all (·.oneCell') = true from hone]; rfl
          refine sN 4 rfl rfl hone6 ?_ (by kernel_rfl)
          refine ld1 4 rfl (v := sj name) rfl ?_
          refine lkp (ke := keS) (k := name) 3 rfl undMb keyMb zeroB ?_
          rw [if_neg (by decide), hsn name]
          cases hdn : decide (name ∈ seen) with
          | true =>
            rw [hdn] at hall2
            iterate 4 refine cf rfl ?_
            refine ct rfl ?_
            iterate 6 refine cf rfl ?_
            refine ct rfl ?_
            refine ct rfl ?_
            exact rt (congrArg Value.bool (by rw [hall2]; rfl))
          | false =>
            rw [hdn] at hall2
            iterate 2 refine ct rfl ?_
            refine ld1 4 rfl (v := sj name) rfl ?_
            refine ct rfl ?_
            have hva := fun (w : World) (hw : Laid w) => valid_any name w hw
            cases hvn : validP name with
            | false =>
              rw [hvn] at hva hall2
              refine cvs (fun w hs => hva w (hs.res (k := 0) rfl)) ?_
              refine ct rfl ?_
              refine cf rfl ?_
              iterate 6 refine cf rfl ?_
              refine ct rfl ?_
              refine ct rfl ?_
              exact rt (congrArg Value.bool (by rw [hall2]; rfl))
            | true =>
              rw [hvn] at hva hall2
              refine cvs (fun w hs => hva w (hs.res (k := 0) rfl)) ?_
              refine ct rfl ?_
              refine cf rfl ?_
              iterate 2 refine ct rfl ?_
              refine ldP 4 (d := #[.int .i64 ck, .int .i64 ci, sj cs, cvl, cvp]) rfl rfl rfl ?_
              iterate 2 refine ct rfl ?_
              refine .as ((d + 1 : Nat) : Int) (by omega) (by simp only [mn]; omega) (by simp only [mx]; omega) ?_
              refine ct rfl ?_
              cases hSj : S j1 with
              | false =>
                rw [hSj] at hcall hall2
                refine cvs (fun w hs => hcall w (hs.res (k := 1) rfl) (hs.res (k := 0) rfl)) ?_
                refine ct rfl ?_
                refine cf rfl ?_
                refine ct rfl ?_
                exact rt (congrArg Value.bool (by rw [hall2]; rfl))
              | true =>
                rw [hSj] at hcall hall2
                refine cvs (fun w hs => hcall w (hs.res (k := 1) rfl) (hs.res (k := 0) rfl)) ?_
                refine ct rfl ?_
                refine cf rfl ?_
                refine cf rfl ?_
                refine ld1 4 rfl (v := sj name) rfl ?_
                refine mup (ke := keS) (k := name) 3 rfl undMb keyMb ?_
                refine .as ((q + 1 : Nat) : Int) (by simp) (by simp only [mn]; omega) (by simp only [mx]; unfold maxLen at k3; omega) ?_
                exact ⟨(q + 1, name :: seen, setS name (.bool true) clk es, clkS name es clk), ⟨by simp only; omega, by rw [hall2]; rfl, hsn.add name clk⟩, by simp only; omega, ⟨⟨rfl, rfl, rfl, rfl, rfl, rfl, trivial⟩, .cons (.cons (.cons (.cons (.drop .nil)))), rfl⟩⟩
        · have hqe : q = p'.length := by simp only at hql; omega
          rw [hqe, List.drop_length] at hall
          refine ld1 2 rfl rfl ?_
          exact rt (congrArg Value.bool (by rw [hall]; exact hel))
      · rw [if_neg h5]
        exact rt rfl
theorem sound_any : ∀ (r d : Nat), d + r = 8 → ∀ (c : CT) (j : JV) (A : Nat → Prop) (w : World), HeldT w A c j → Laid w → Calls Tryd.prog 30 ([.agg c.cs.toArray, .int .i64 (d : Int)] : List Value).toArray w fun e w' => e = .returned (.bool (sndD r j)) ∧ Below w.heap.size w w' := by
  intro r
  induction r with
  | zero => intro d hd; exact sound_core (fun _ => false) false d (by simp; omega) (by omega) fun h => by omega
  | succ r ih => intro d hd; exact sound_core (sndD r) true d (by simp; omega) (by omega) fun _ => ih (d + 1) (by omega)
set_option maxRecDepth 100000 in
theorem check_any (c : CT) (j : JV) (A : Nat → Prop) (w : World) (h : HeldT w A c j) (hw : Laid w) : Calls Tryd.prog 21 ([.agg c.cs.toArray] : List Value).toArray w fun e w' => e = .returned (errV (if sndD 8 j then 0 else 1)) ∧ Below w.heap.size w w' := by
  refine enterV tab_ok Tryd.func21 rfl Tryd.ntmps21 rfl (St.rdLT3 h hw) ?_
  intro b1
  refine ldN 2 rfl (show c.cs.toArray.size = 5 by rw [List.size_toArray, CT.cs5]) ?_
  have hs := sound_any 8 0 rfl c j A
  cases hj : sndD 8 j with
  | true =>
    rw [hj] at hs
    refine cvs (fun w hst => hs w (hst.res (k := 1) rfl) (hst.res (k := 0) rfl)) ?_
    refine cf rfl ?_
    exact rt rfl
  | false =>
    rw [hj] at hs
    refine cvs (fun w hst => hs w (hst.res (k := 1) rfl) (hst.res (k := 0) rfl)) ?_
    refine ct rfl ?_
    exact rt rfl
end Go.Proofs.YtpegkoklmhccjaaDoor
end
section
namespace Go.Proofs.YtpegkoklmhccjaaDoor
open Go.RowKit Go.Sx
set_option linter.unusedVariables false
set_option maxRecDepth 100000 in
set_option maxHeartbeats 8000000 in
theorem good_core (S : JV → Bool) (deep : Bool) (d : Nat) (hd8 : deep = decide (d < 8)) (hd : d ≤ 8)
    (hS : d < 8 → ∀ (c : CT) (j : JV) (A : Nat → Prop) (w : World), HeldT w A c j → Calls Tryd.prog 22 ([.agg c.cs.toArray, .int .i64 ((d + 1 : Nat) : Int)] : List Value).toArray w fun e w' => e = .returned (.bool (S j)) ∧ Below w.heap.size w w')
    (c : CT) (j : JV) (A : Nat → Prop) (w : World) (h : HeldT w A c j) : Calls Tryd.prog 22 ([.agg c.cs.toArray, .int .i64 (d : Int)] : List Value).toArray w fun e w' => e = .returned (.bool (sndG S deep j)) ∧ Below w.heap.size w w' := by
  have hcs := h.2.cs
  obtain ⟨k, i, s, vl, vp, l, p, rfl⟩ : ∃ k i s vl vp l p, c = CT.mk k i s vl vp l p := by cases c; exact ⟨_, _, _, _, _, _, _, rfl⟩
  obtain ⟨l', p', rfl⟩ : ∃ l' p', j = .mk k i s l' p' := by cases hcs; exact ⟨_, _, rfl⟩
  obtain ⟨hll, hlp, hl, hp, kn⟩ : l.length = l'.length ∧ p.length = p'.length ∧ SlOf vl l.length ∧ SlOf vp p.length ∧ ∀ (n : Nat) (c : Bs × CT) (j : Bs × JV), p[n]? = some c → p'[n]? = some j → c.1 = j.1 := by cases hcs; exact ⟨‹_›, ‹_›, ‹_›, ‹_›, ‹_›⟩
  obtain ⟨k1, a, cap, rfl, k2⟩ := hl
  obtain ⟨k3, a', cap', rfl, k4⟩ := hp
  refine enterV tab_ok Tryd.func22 rfl Tryd.ntmps22 rfl (St.rdT h) ?_
  intro b2
  by_cases hk0 : k < 0
  case pos =>
    have fa1 : decide (k < 0) = true := decide_eq_true hk0
    have fa2 : (decide (k < 0) == false) = false := by rw [fa1]; rfl
    refine ld1 1 rfl rfl ?_
    refine cf fa2 ?_
    refine cf fa2 ?_
    refine cf fa2 ?_
    refine ct fa1 ?_
    refine cf rfl ?_
    refine cf rfl ?_
    refine cf rfl ?_
    refine cf rfl ?_
    refine cf rfl ?_
    refine ct rfl ?_
    refine cf rfl ?_
    refine cf rfl ?_
    refine cf rfl ?_
    refine cf rfl ?_
    refine cf rfl ?_
    refine ct rfl ?_
    refine cf rfl ?_
    refine cf rfl ?_
    refine cf rfl ?_
    refine cf rfl ?_
    refine cf rfl ?_
    refine ct rfl ?_
    refine ct rfl ?_
    have q0 : ¬ k = 0 ∧ ¬ k = 1 ∧ ¬ k = 2 ∧ ¬ k = 3 ∧ ¬ k = 4 ∧ ¬ k = 5 := by omega
    exact rt (congrArg Value.bool (by unfold sndG; simp [*]))
  by_cases hk5 : k > 5
  case pos =>
    have fa1 : decide (k < 0) = false := decide_eq_false hk0
    have fa2 : (decide (k < 0) == false) = true := by rw [fa1]; rfl
    have fb1 : decide (k > 5) = true := decide_eq_true hk5
    have fb2 : (decide (k > 5) == false) = false := by rw [fb1]; rfl
    refine ld1 1 rfl rfl ?_
    refine ct fa2 ?_
    refine ct fa2 ?_
    refine ld1 1 rfl rfl ?_
    refine ct fa2 ?_
    refine cf fa1 ?_
    refine cf fb2 ?_
    refine cf fb2 ?_
    refine cf fb2 ?_
    refine cf fb2 ?_
    refine cf fb2 ?_
    refine ct fb1 ?_
    refine cf rfl ?_
    refine cf rfl ?_
    refine cf rfl ?_
    refine cf rfl ?_
    refine cf rfl ?_
    refine ct rfl ?_
    refine cf rfl ?_
    refine cf rfl ?_
    refine cf rfl ?_
    refine cf rfl ?_
    refine cf rfl ?_
    refine ct rfl ?_
    refine ct rfl ?_
    have q0 : ¬ k = 0 ∧ ¬ k = 1 ∧ ¬ k = 2 ∧ ¬ k = 3 ∧ ¬ k = 4 ∧ ¬ k = 5 := by omega
    exact rt (congrArg Value.bool (by unfold sndG; simp [*]))
  have hkk : k = 0 ∨ (k = 1 ∧ i = 0) ∨ (k = 1 ∧ ¬ i = 0 ∧ i = 1) ∨ (k = 1 ∧ ¬ i = 0 ∧ ¬ i = 1) ∨ k = 2 ∨ k = 3 ∨ k = 4 ∨ k = 5 := by omega
  clear hk0 hk5
  rcases hkk with hk | ⟨hk, hi⟩ | ⟨hk, hi, hj⟩ | ⟨hk, hi, hj⟩ | hk | hk | hk | hk
  have fa1 : decide (k < 0) = false := by rw [hk]; decide
  have fa2 : (decide (k < 0) == false) = true := by rw [fa1]; rfl
  have fb1 : decide (k > 5) = false := by rw [hk]; decide
  have fb2 : (decide (k > 5) == false) = true := by rw [fb1]; rfl
  have fc1 : (k != 4) = true := by rw [hk]; decide
  have fc2 : ((k != 4) == true) = true := by rw [fc1]; rfl
  have fe1 : (k != 5) = true := by rw [hk]; decide
  have fe2 : ((k != 5) == true) = true := by rw [fe1]; rfl
  have ff1 : (k != 3) = true := by rw [hk]; decide
  have ff2 : ((k != 3) == true) = true := by rw [ff1]; rfl
  have fg1 : (k == 1) = false := by rw [hk]; decide
  have fg2 : ((k == 1) == true) = false := by rw [fg1]; rfl
  have fj1 : (k == 2) = false := by rw [hk]; decide
  have fj2 : ((k == 2) == true) = false := by rw [fj1]; rfl
  have fn1 : (k != 1) = true := by rw [hk]; decide
  have fn2 : ((k != 1) == true) = true := by rw [fn1]; rfl
  have fo1 : (k != 2) = true := by rw [hk]; decide
  have fo2 : ((k != 2) == true) = true := by rw [fo1]; rfl
  have fr1 : (k == 3) = false := by rw [hk]; decide
  have fr2 : ((k == 3) == true) = false := by rw [fr1]; rfl
  have fs1 : decide (k ≥ 4) = false := by rw [hk]; decide
  have fs2 : (decide (k ≥ 4) == true) = false := by rw [fs1]; rfl
  by_cases hl : l' = []
  case neg =>
    have fl1 : decide ((l.length : Int) > 0) = true := decide_eq_true (by have := List.length_pos_iff.2 hl; omega)
    have fl2 : (decide ((l.length : Int) > 0) == false) = false := by rw [fl1]; rfl
    refine ld1 1 rfl rfl ?_
    refine ct fa2 ?_
    refine ct fa2 ?_
    refine ld1 1 rfl rfl ?_
    refine ct fa2 ?_
    refine cf fa1 ?_
    refine ct fb2 ?_
    refine ct fb2 ?_
    refine ld1 1 rfl rfl ?_
    refine ct fb2 ?_
    refine ct fb2 ?_
    refine ct fc2 ?_
    refine ct fc2 ?_
    refine ld1 1 rfl rfl ?_
    refine ct fc2 ?_
    refine ct fc2 ?_
    refine ct fb2 ?_
    refine ct fc1 ?_
    refine cf fb1 ?_
    refine cf fl2 ?_
    refine cf fl2 ?_
    refine cf fl2 ?_
    refine cf fl2 ?_
    refine cf fl2 ?_
    refine ct fl1 ?_
    refine cf rfl ?_
    refine cf rfl ?_
    refine cf rfl ?_
    refine cf rfl ?_
    refine cf rfl ?_
    refine ct rfl ?_
    refine ct rfl ?_
    exact rt (congrArg Value.bool (by unfold sndG; simp [*]))
  have fl1 : decide ((l.length : Int) > 0) = false := decide_eq_false (by rw [hll, hl]; simp)
  have fl2 : (decide ((l.length : Int) > 0) == false) = true := by rw [fl1]; rfl
  by_cases hp : p' = []
  case neg =>
    have fq1 : decide ((p.length : Int) > 0) = true := decide_eq_true (by have := List.length_pos_iff.2 hp; omega)
    have fq2 : (decide ((p.length : Int) > 0) == false) = false := by rw [fq1]; rfl
    refine ld1 1 rfl rfl ?_
    refine ct fa2 ?_
    refine ct fa2 ?_
    refine ld1 1 rfl rfl ?_
    refine ct fa2 ?_
    refine cf fa1 ?_
    refine ct fb2 ?_
    refine ct fb2 ?_
    refine ld1 1 rfl rfl ?_
    refine ct fb2 ?_
    refine ct fb2 ?_
    refine ct fc2 ?_
    refine ct fc2 ?_
    refine ld1 1 rfl rfl ?_
    refine ct fc2 ?_
    refine ct fc2 ?_
    refine ct fb2 ?_
    refine ct fc1 ?_
    refine cf fb1 ?_
    refine ct fl2 ?_
    refine ct fl2 ?_
    refine ld1 1 rfl rfl ?_
    refine ct fl2 ?_
    refine ct fl2 ?_
    refine ct fe2 ?_
    refine ct fe2 ?_
    refine ld1 1 rfl rfl ?_
    refine ct fe2 ?_
    refine ct fe2 ?_
    refine ct fl2 ?_
    refine ct fe1 ?_
    refine cf fl1 ?_
    refine cf fq2 ?_
    refine cf fq2 ?_
    refine cf fq2 ?_
    refine cf fq2 ?_
    refine cf fq2 ?_
    refine ct fq1 ?_
    refine ct rfl ?_
    exact rt (congrArg Value.bool (by unfold sndG; simp [*]))
  have fq1 : decide ((p.length : Int) > 0) = false := decide_eq_false (by rw [hlp, hp]; simp)
  have fq2 : (decide ((p.length : Int) > 0) == false) = true := by rw [fq1]; rfl
  by_cases hs : s = []
  case neg =>
    have fu1 : (!((ByteArray.mk s.toArray).toList == (ByteArray.mk #[]).toList)) = true := by rw [show (#[] : Array UInt8) = ([] : Bs).toArray from rfl, list_beq]; simp [hs]
    have fu2 : ((!((ByteArray.mk s.toArray).toList == (ByteArray.mk #[]).toList)) == false) = false := by rw [fu1]; rfl
    refine ld1 1 rfl rfl ?_
    refine ct fa2 ?_
    refine ct fa2 ?_
    refine ld1 1 rfl rfl ?_
    refine ct fa2 ?_
    refine cf fa1 ?_
    refine ct fb2 ?_
    refine ct fb2 ?_
    refine ld1 1 rfl rfl ?_
    refine ct fb2 ?_
    refine ct fb2 ?_
    refine ct fc2 ?_
    refine ct fc2 ?_
    refine ld1 1 rfl rfl ?_
    refine ct fc2 ?_
    refine ct fc2 ?_
    refine ct fb2 ?_
    refine ct fc1 ?_
    refine cf fb1 ?_
    refine ct fl2 ?_
    refine ct fl2 ?_
    refine ld1 1 rfl rfl ?_
    refine ct fl2 ?_
    refine ct fl2 ?_
    refine ct fe2 ?_
    refine ct fe2 ?_
    refine ld1 1 rfl rfl ?_
    refine ct fe2 ?_
    refine ct fe2 ?_
    refine ct fl2 ?_
    refine ct fe1 ?_
    refine cf fl1 ?_
    refine ct fq2 ?_
    refine ct fq2 ?_
    refine ld1 1 rfl rfl ?_
    refine ct fq2 ?_
    refine ct fq2 ?_
    refine ct ff2 ?_
    refine ct ff2 ?_
    refine ld1 1 rfl rfl ?_
    refine ct ff2 ?_
    refine ct fq2 ?_
    refine ct ff1 ?_
    refine cf fq1 ?_
    refine ct fu1 ?_
    exact rt (congrArg Value.bool (by unfold sndG; simp [*]))
  have fu1 : (!((ByteArray.mk s.toArray).toList == (ByteArray.mk #[]).toList)) = false := by rw [show (#[] : Array UInt8) = ([] : Bs).toArray from rfl, list_beq]; simp [hs]
  have fu2 : ((!((ByteArray.mk s.toArray).toList == (ByteArray.mk #[]).toList)) == false) = true := by rw [fu1]; rfl
  refine ld1 1 rfl rfl ?_
  refine ct fa2 ?_
  refine ct fa2 ?_
  refine ld1 1 rfl rfl ?_
  refine ct fa2 ?_
  refine cf fa1 ?_
  refine ct fb2 ?_
  refine ct fb2 ?_
  refine ld1 1 rfl rfl ?_
  refine ct fb2 ?_
  refine ct fb2 ?_
  refine ct fc2 ?_
  refine ct fc2 ?_
  refine ld1 1 rfl rfl ?_
  refine ct fc2 ?_
  refine ct fc2 ?_
  refine ct fb2 ?_
  refine ct fc1 ?_
  refine cf fb1 ?_
  refine ct fl2 ?_
  refine ct fl2 ?_
  refine ld1 1 rfl rfl ?_
  refine ct fl2 ?_
  refine ct fl2 ?_
  refine ct fe2 ?_
  refine ct fe2 ?_
  refine ld1 1 rfl rfl ?_
  refine ct fe2 ?_
  refine ct fe2 ?_
  refine ct fl2 ?_
  refine ct fe1 ?_
  refine cf fl1 ?_
  refine ct fq2 ?_
  refine ct fq2 ?_
  refine ld1 1 rfl rfl ?_
  refine ct fq2 ?_
  refine ct fq2 ?_
  refine ct ff2 ?_
  refine ct ff2 ?_
  refine ld1 1 rfl rfl ?_
  refine ct ff2 ?_
  refine ct fq2 ?_
  refine ct ff1 ?_
  refine cf fq1 ?_
  refine cf fu1 ?_
  by_cases hi : i = 0
  case neg =>
    have fp1 : (i != 0) = true := by simp [hi]
    have fp2 : ((i != 0) == false) = false := by rw [fp1]; rfl
    refine ld1 1 rfl rfl ?_
    refine cf fg2 ?_
    refine cf fg2 ?_
    refine cf fg2 ?_
    refine cf fg1 ?_
    refine cf rfl ?_
    refine cf rfl ?_
    refine cf rfl ?_
    refine cf rfl ?_
    refine ct rfl ?_
    refine ct rfl ?_
    refine ld1 1 rfl rfl ?_
    refine ct rfl ?_
    refine ct rfl ?_
    refine cf fj2 ?_
    refine cf fj2 ?_
    refine cf fj2 ?_
    refine cf fj2 ?_
    refine cf fj2 ?_
    refine ct rfl ?_
    refine cf fj1 ?_
    refine cf rfl ?_
    refine ct rfl ?_
    refine ct rfl ?_
    refine ld1 1 rfl rfl ?_
    refine ct rfl ?_
    refine ct rfl ?_
    refine ct fn2 ?_
    refine ct fn2 ?_
    refine ld1 1 rfl rfl ?_
    refine ct fn2 ?_
    refine ct rfl ?_
    refine ct fn1 ?_
    refine ct rfl ?_
    refine ct fo2 ?_
    refine ct fo2 ?_
    refine ld1 1 rfl rfl ?_
    refine ct fo2 ?_
    refine ct rfl ?_
    refine ct fo1 ?_
    refine cf rfl ?_
    refine ct fp1 ?_
    exact rt (congrArg Value.bool (by unfold sndG; simp [*]))
  have fp1 : (i != 0) = false := by simp [hi]
  have fp2 : ((i != 0) == false) = true := by rw [fp1]; rfl
  refine ld1 1 rfl rfl ?_
  refine cf fg2 ?_
  refine cf fg2 ?_
  refine cf fg2 ?_
  refine cf fg1 ?_
  refine cf rfl ?_
  refine cf rfl ?_
  refine cf rfl ?_
  refine cf rfl ?_
  refine ct rfl ?_
  refine ct rfl ?_
  refine ld1 1 rfl rfl ?_
  refine ct rfl ?_
  refine ct rfl ?_
  refine cf fj2 ?_
  refine cf fj2 ?_
  refine cf fj2 ?_
  refine cf fj2 ?_
  refine cf fj2 ?_
  refine ct rfl ?_
  refine cf fj1 ?_
  refine cf rfl ?_
  refine ct rfl ?_
  refine ct rfl ?_
  refine ld1 1 rfl rfl ?_
  refine ct rfl ?_
  refine ct rfl ?_
  refine ct fn2 ?_
  refine ct fn2 ?_
  refine ld1 1 rfl rfl ?_
  refine ct fn2 ?_
  refine ct rfl ?_
  refine ct fn1 ?_
  refine ct rfl ?_
  refine ct fo2 ?_
  refine ct fo2 ?_
  refine ld1 1 rfl rfl ?_
  refine ct fo2 ?_
  refine ct rfl ?_
  refine ct fo1 ?_
  refine cf rfl ?_
  refine cf fp1 ?_
  refine ld1 1 rfl rfl ?_
  refine cf fr2 ?_
  refine cf fr2 ?_
  refine cf fr2 ?_
  refine cf fr2 ?_
  refine cf fr1 ?_
  refine ct rfl ?_
  refine ct rfl ?_
  refine ld1 1 rfl rfl ?_
  refine ct rfl ?_
  refine ct rfl ?_
  refine cf fs2 ?_
  refine cf fs2 ?_
  refine ct rfl ?_
  refine cf fs1 ?_
  refine cf rfl ?_
  refine cf rfl ?_
  have hspec : sndG S deep (.mk k i s l' p') = (l'.all S && prsK S [] p') := by unfold sndG; simp [*, prsK]
  have hdp : l' ≠ [] ∨ p' ≠ [] → d < 8 := fun h => by rcases h with h | h; exact absurd hl h; exact absurd hp h
  rotate_left
  have fa1 : decide (k < 0) = false := by rw [hk]; decide
  have fa2 : (decide (k < 0) == false) = true := by rw [fa1]; rfl
  have fb1 : decide (k > 5) = false := by rw [hk]; decide
  have fb2 : (decide (k > 5) == false) = true := by rw [fb1]; rfl
  have fc1 : (k != 4) = true := by rw [hk]; decide
  have fc2 : ((k != 4) == true) = true := by rw [fc1]; rfl
  have fe1 : (k != 5) = true := by rw [hk]; decide
  have fe2 : ((k != 5) == true) = true := by rw [fe1]; rfl
  have ff1 : (k != 3) = true := by rw [hk]; decide
  have ff2 : ((k != 3) == true) = true := by rw [ff1]; rfl
  have fg1 : (k == 1) = true := by rw [hk]; decide
  have fg2 : ((k == 1) == true) = true := by rw [fg1]; rfl
  have fj1 : (k == 2) = false := by rw [hk]; decide
  have fj2 : ((k == 2) == true) = false := by rw [fj1]; rfl
  have fn1 : (k != 1) = false := by rw [hk]; decide
  have fn2 : ((k != 1) == true) = false := by rw [fn1]; rfl
  have fo1 : (k != 2) = true := by rw [hk]; decide
  have fo2 : ((k != 2) == true) = true := by rw [fo1]; rfl
  have fr1 : (k == 3) = false := by rw [hk]; decide
  have fr2 : ((k == 3) == true) = false := by rw [fr1]; rfl
  have fs1 : decide (k ≥ 4) = false := by rw [hk]; decide
  have fs2 : (decide (k ≥ 4) == true) = false := by rw [fs1]; rfl
  by_cases hl : l' = []
  case neg =>
    have fl1 : decide ((l.length : Int) > 0) = true := decide_eq_true (by have := List.length_pos_iff.2 hl; omega)
    have fl2 : (decide ((l.length : Int) > 0) == false) = false := by rw [fl1]; rfl
    refine ld1 1 rfl rfl ?_
    refine ct fa2 ?_
    refine ct fa2 ?_
    refine ld1 1 rfl rfl ?_
    refine ct fa2 ?_
    refine cf fa1 ?_
    refine ct fb2 ?_
    refine ct fb2 ?_
    refine ld1 1 rfl rfl ?_
    refine ct fb2 ?_
    refine ct fb2 ?_
    refine ct fc2 ?_
    refine ct fc2 ?_
    refine ld1 1 rfl rfl ?_
    refine ct fc2 ?_
    refine ct fc2 ?_
    refine ct fb2 ?_
    refine ct fc1 ?_
    refine cf fb1 ?_
    refine cf fl2 ?_
    refine cf fl2 ?_
    refine cf fl2 ?_
    refine cf fl2 ?_
    refine cf fl2 ?_
    refine ct fl1 ?_
    refine cf rfl ?_
    refine cf rfl ?_
    refine cf rfl ?_
    refine cf rfl ?_
    refine cf rfl ?_
    refine ct rfl ?_
    refine ct rfl ?_
    exact rt (congrArg Value.bool (by unfold sndG; simp [*]))
  have fl1 : decide ((l.length : Int) > 0) = false := decide_eq_false (by rw [hll, hl]; simp)
  have fl2 : (decide ((l.length : Int) > 0) == false) = true := by rw [fl1]; rfl
  by_cases hp : p' = []
  case neg =>
    have fq1 : decide ((p.length : Int) > 0) = true := decide_eq_true (by have := List.length_pos_iff.2 hp; omega)
    have fq2 : (decide ((p.length : Int) > 0) == false) = false := by rw [fq1]; rfl
    refine ld1 1 rfl rfl ?_
    refine ct fa2 ?_
    refine ct fa2 ?_
    refine ld1 1 rfl rfl ?_
    refine ct fa2 ?_
    refine cf fa1 ?_
    refine ct fb2 ?_
    refine ct fb2 ?_
    refine ld1 1 rfl rfl ?_
    refine ct fb2 ?_
    refine ct fb2 ?_
    refine ct fc2 ?_
    refine ct fc2 ?_
    refine ld1 1 rfl rfl ?_
    refine ct fc2 ?_
    refine ct fc2 ?_
    refine ct fb2 ?_
    refine ct fc1 ?_
    refine cf fb1 ?_
    refine ct fl2 ?_
    refine ct fl2 ?_
    refine ld1 1 rfl rfl ?_
    refine ct fl2 ?_
    refine ct fl2 ?_
    refine ct fe2 ?_
    refine ct fe2 ?_
    refine ld1 1 rfl rfl ?_
    refine ct fe2 ?_
    refine ct fe2 ?_
    refine ct fl2 ?_
    refine ct fe1 ?_
    refine cf fl1 ?_
    refine cf fq2 ?_
    refine cf fq2 ?_
    refine cf fq2 ?_
    refine cf fq2 ?_
    refine cf fq2 ?_
    refine ct fq1 ?_
    refine ct rfl ?_
    exact rt (congrArg Value.bool (by unfold sndG; simp [*]))
  have fq1 : decide ((p.length : Int) > 0) = false := decide_eq_false (by rw [hlp, hp]; simp)
  have fq2 : (decide ((p.length : Int) > 0) == false) = true := by rw [fq1]; rfl
  by_cases hs : s = []
  case neg =>
    have fu1 : (!((ByteArray.mk s.toArray).toList == (ByteArray.mk #[]).toList)) = true := by rw [show (#[] : Array UInt8) = ([] : Bs).toArray from rfl, list_beq]; simp [hs]
    have fu2 : ((!((ByteArray.mk s.toArray).toList == (ByteArray.mk #[]).toList)) == false) = false := by rw [fu1]; rfl
    refine ld1 1 rfl rfl ?_
    refine ct fa2 ?_
    refine ct fa2 ?_
    refine ld1 1 rfl rfl ?_
    refine ct fa2 ?_
    refine cf fa1 ?_
    refine ct fb2 ?_
    refine ct fb2 ?_
    refine ld1 1 rfl rfl ?_
    refine ct fb2 ?_
    refine ct fb2 ?_
    refine ct fc2 ?_
    refine ct fc2 ?_
    refine ld1 1 rfl rfl ?_
    refine ct fc2 ?_
    refine ct fc2 ?_
    refine ct fb2 ?_
    refine ct fc1 ?_
    refine cf fb1 ?_
    refine ct fl2 ?_
    refine ct fl2 ?_
    refine ld1 1 rfl rfl ?_
    refine ct fl2 ?_
    refine ct fl2 ?_
    refine ct fe2 ?_
    refine ct fe2 ?_
    refine ld1 1 rfl rfl ?_
    refine ct fe2 ?_
    refine ct fe2 ?_
    refine ct fl2 ?_
    refine ct fe1 ?_
    refine cf fl1 ?_
    refine ct fq2 ?_
    refine ct fq2 ?_
    refine ld1 1 rfl rfl ?_
    refine ct fq2 ?_
    refine ct fq2 ?_
    refine ct ff2 ?_
    refine ct ff2 ?_
    refine ld1 1 rfl rfl ?_
    refine ct ff2 ?_
    refine ct fq2 ?_
    refine ct ff1 ?_
    refine cf fq1 ?_
    refine ct fu1 ?_
    exact rt (congrArg Value.bool (by unfold sndG; simp [*]))
  have fu1 : (!((ByteArray.mk s.toArray).toList == (ByteArray.mk #[]).toList)) = false := by rw [show (#[] : Array UInt8) = ([] : Bs).toArray from rfl, list_beq]; simp [hs]
  have fu2 : ((!((ByteArray.mk s.toArray).toList == (ByteArray.mk #[]).toList)) == false) = true := by rw [fu1]; rfl
  refine ld1 1 rfl rfl ?_
  refine ct fa2 ?_
  refine ct fa2 ?_
  refine ld1 1 rfl rfl ?_
  refine ct fa2 ?_
  refine cf fa1 ?_
  refine ct fb2 ?_
  refine ct fb2 ?_
  refine ld1 1 rfl rfl ?_
  refine ct fb2 ?_
  refine ct fb2 ?_
  refine ct fc2 ?_
  refine ct fc2 ?_
  refine ld1 1 rfl rfl ?_
  refine ct fc2 ?_
  refine ct fc2 ?_
  refine ct fb2 ?_
  refine ct fc1 ?_
  refine cf fb1 ?_
  refine ct fl2 ?_
  refine ct fl2 ?_
  refine ld1 1 rfl rfl ?_
  refine ct fl2 ?_
  refine ct fl2 ?_
  refine ct fe2 ?_
  refine ct fe2 ?_
  refine ld1 1 rfl rfl ?_
  refine ct fe2 ?_
  refine ct fe2 ?_
  refine ct fl2 ?_
  refine ct fe1 ?_
  refine cf fl1 ?_
  refine ct fq2 ?_
  refine ct fq2 ?_
  refine ld1 1 rfl rfl ?_
  refine ct fq2 ?_
  refine ct fq2 ?_
  refine ct ff2 ?_
  refine ct ff2 ?_
  refine ld1 1 rfl rfl ?_
  refine ct ff2 ?_
  refine ct fq2 ?_
  refine ct ff1 ?_
  refine cf fq1 ?_
  refine cf fu1 ?_
  have fh1 : (i != 0) = false := by simp [hi]
  have fh2 : ((i != 0) == true) = false := by rw [fh1]; rfl
  refine ld1 1 rfl rfl ?_
  refine ct fg2 ?_
  refine ct fg2 ?_
  refine ld1 1 rfl rfl ?_
  refine ct fg2 ?_
  refine ct fg1 ?_
  refine cf fh2 ?_
  refine cf fh2 ?_
  refine cf fh2 ?_
  refine cf fh1 ?_
  refine ct rfl ?_
  refine ct rfl ?_
  refine ld1 1 rfl rfl ?_
  refine ct rfl ?_
  refine ct rfl ?_
  refine cf fj2 ?_
  refine cf fj2 ?_
  refine cf fj2 ?_
  refine cf fj2 ?_
  refine cf fj2 ?_
  refine ct rfl ?_
  refine cf fj1 ?_
  refine cf rfl ?_
  refine ct rfl ?_
  refine ct rfl ?_
  refine ld1 1 rfl rfl ?_
  refine ct rfl ?_
  refine ct rfl ?_
  refine cf fn2 ?_
  refine cf fn2 ?_
  refine cf fn2 ?_
  refine ct rfl ?_
  refine cf fn1 ?_
  refine ct rfl ?_
  refine cf rfl ?_
  refine cf rfl ?_
  refine cf rfl ?_
  refine ct rfl ?_
  refine cf rfl ?_
  refine cf rfl ?_
  refine cf rfl ?_
  refine ld1 1 rfl rfl ?_
  refine cf fr2 ?_
  refine cf fr2 ?_
  refine cf fr2 ?_
  refine cf fr2 ?_
  refine cf fr1 ?_
  refine ct rfl ?_
  refine ct rfl ?_
  refine ld1 1 rfl rfl ?_
  refine ct rfl ?_
  refine ct rfl ?_
  refine cf fs2 ?_
  refine cf fs2 ?_
  refine ct rfl ?_
  refine cf fs1 ?_
  refine cf rfl ?_
  refine cf rfl ?_
  have hspec : sndG S deep (.mk k i s l' p') = (l'.all S && prsK S [] p') := by unfold sndG; simp [*, prsK]
  have hdp : l' ≠ [] ∨ p' ≠ [] → d < 8 := fun h => by rcases h with h | h; exact absurd hl h; exact absurd hp h
  rotate_left
  have fa1 : decide (k < 0) = false := by rw [hk]; decide
  have fa2 : (decide (k < 0) == false) = true := by rw [fa1]; rfl
  have fb1 : decide (k > 5) = false := by rw [hk]; decide
  have fb2 : (decide (k > 5) == false) = true := by rw [fb1]; rfl
  have fc1 : (k != 4) = true := by rw [hk]; decide
  have fc2 : ((k != 4) == true) = true := by rw [fc1]; rfl
  have fe1 : (k != 5) = true := by rw [hk]; decide
  have fe2 : ((k != 5) == true) = true := by rw [fe1]; rfl
  have ff1 : (k != 3) = true := by rw [hk]; decide
  have ff2 : ((k != 3) == true) = true := by rw [ff1]; rfl
  have fg1 : (k == 1) = true := by rw [hk]; decide
  have fg2 : ((k == 1) == true) = true := by rw [fg1]; rfl
  have fj1 : (k == 2) = false := by rw [hk]; decide
  have fj2 : ((k == 2) == true) = false := by rw [fj1]; rfl
  have fn1 : (k != 1) = false := by rw [hk]; decide
  have fn2 : ((k != 1) == true) = false := by rw [fn1]; rfl
  have fo1 : (k != 2) = true := by rw [hk]; decide
  have fo2 : ((k != 2) == true) = true := by rw [fo1]; rfl
  have fr1 : (k == 3) = false := by rw [hk]; decide
  have fr2 : ((k == 3) == true) = false := by rw [fr1]; rfl
  have fs1 : decide (k ≥ 4) = false := by rw [hk]; decide
  have fs2 : (decide (k ≥ 4) == true) = false := by rw [fs1]; rfl
  by_cases hl : l' = []
  case neg =>
    have fl1 : decide ((l.length : Int) > 0) = true := decide_eq_true (by have := List.length_pos_iff.2 hl; omega)
    have fl2 : (decide ((l.length : Int) > 0) == false) = false := by rw [fl1]; rfl
    refine ld1 1 rfl rfl ?_
    refine ct fa2 ?_
    refine ct fa2 ?_
    refine ld1 1 rfl rfl ?_
    refine ct fa2 ?_
    refine cf fa1 ?_
    refine ct fb2 ?_
    refine ct fb2 ?_
    refine ld1 1 rfl rfl ?_
    refine ct fb2 ?_
    refine ct fb2 ?_
    refine ct fc2 ?_
    refine ct fc2 ?_
    refine ld1 1 rfl rfl ?_
    refine ct fc2 ?_
    refine ct fc2 ?_
    refine ct fb2 ?_
    refine ct fc1 ?_
    refine cf fb1 ?_
    refine cf fl2 ?_
    refine cf fl2 ?_
    refine cf fl2 ?_
    refine cf fl2 ?_
    refine cf fl2 ?_
    refine ct fl1 ?_
    refine cf rfl ?_
    refine cf rfl ?_
    refine cf rfl ?_
    refine cf rfl ?_
    refine cf rfl ?_
    refine ct rfl ?_
    refine ct rfl ?_
    exact rt (congrArg Value.bool (by unfold sndG; simp [*]))
  have fl1 : decide ((l.length : Int) > 0) = false := decide_eq_false (by rw [hll, hl]; simp)
  have fl2 : (decide ((l.length : Int) > 0) == false) = true := by rw [fl1]; rfl
  by_cases hp : p' = []
  case neg =>
    have fq1 : decide ((p.length : Int) > 0) = true := decide_eq_true (by have := List.length_pos_iff.2 hp; omega)
    have fq2 : (decide ((p.length : Int) > 0) == false) = false := by rw [fq1]; rfl
    refine ld1 1 rfl rfl ?_
    refine ct fa2 ?_
    refine ct fa2 ?_
    refine ld1 1 rfl rfl ?_
    refine ct fa2 ?_
    refine cf fa1 ?_
    refine ct fb2 ?_
    refine ct fb2 ?_
    refine ld1 1 rfl rfl ?_
    refine ct fb2 ?_
    refine ct fb2 ?_
    refine ct fc2 ?_
    refine ct fc2 ?_
    refine ld1 1 rfl rfl ?_
    refine ct fc2 ?_
    refine ct fc2 ?_
    refine ct fb2 ?_
    refine ct fc1 ?_
    refine cf fb1 ?_
    refine ct fl2 ?_
    refine ct fl2 ?_
    refine ld1 1 rfl rfl ?_
    refine ct fl2 ?_
    refine ct fl2 ?_
    refine ct fe2 ?_
    refine ct fe2 ?_
    refine ld1 1 rfl rfl ?_
    refine ct fe2 ?_
    refine ct fe2 ?_
    refine ct fl2 ?_
    refine ct fe1 ?_
    refine cf fl1 ?_
    refine cf fq2 ?_
    refine cf fq2 ?_
    refine cf fq2 ?_
    refine cf fq2 ?_
    refine cf fq2 ?_
    refine ct fq1 ?_
    refine ct rfl ?_
    exact rt (congrArg Value.bool (by unfold sndG; simp [*]))
  have fq1 : decide ((p.length : Int) > 0) = false := decide_eq_false (by rw [hlp, hp]; simp)
  have fq2 : (decide ((p.length : Int) > 0) == false) = true := by rw [fq1]; rfl
  by_cases hs : s = []
  case neg =>
    have fu1 : (!((ByteArray.mk s.toArray).toList == (ByteArray.mk #[]).toList)) = true := by rw [show (#[] : Array UInt8) = ([] : Bs).toArray from rfl, list_beq]; simp [hs]
    have fu2 : ((!((ByteArray.mk s.toArray).toList == (ByteArray.mk #[]).toList)) == false) = false := by rw [fu1]; rfl
    refine ld1 1 rfl rfl ?_
    refine ct fa2 ?_
    refine ct fa2 ?_
    refine ld1 1 rfl rfl ?_
    refine ct fa2 ?_
    refine cf fa1 ?_
    refine ct fb2 ?_
    refine ct fb2 ?_
    refine ld1 1 rfl rfl ?_
    refine ct fb2 ?_
    refine ct fb2 ?_
    refine ct fc2 ?_
    refine ct fc2 ?_
    refine ld1 1 rfl rfl ?_
    refine ct fc2 ?_
    refine ct fc2 ?_
    refine ct fb2 ?_
    refine ct fc1 ?_
    refine cf fb1 ?_
    refine ct fl2 ?_
    refine ct fl2 ?_
    refine ld1 1 rfl rfl ?_
    refine ct fl2 ?_
    refine ct fl2 ?_
    refine ct fe2 ?_
    refine ct fe2 ?_
    refine ld1 1 rfl rfl ?_
    refine ct fe2 ?_
    refine ct fe2 ?_
    refine ct fl2 ?_
    refine ct fe1 ?_
    refine cf fl1 ?_
    refine ct fq2 ?_
    refine ct fq2 ?_
    refine ld1 1 rfl rfl ?_
    refine ct fq2 ?_
    refine ct fq2 ?_
    refine ct ff2 ?_
    refine ct ff2 ?_
    refine ld1 1 rfl rfl ?_
    refine ct ff2 ?_
    refine ct fq2 ?_
    refine ct ff1 ?_
    refine cf fq1 ?_
    refine ct fu1 ?_
    exact rt (congrArg Value.bool (by unfold sndG; simp [*]))
  have fu1 : (!((ByteArray.mk s.toArray).toList == (ByteArray.mk #[]).toList)) = false := by rw [show (#[] : Array UInt8) = ([] : Bs).toArray from rfl, list_beq]; simp [hs]
  have fu2 : ((!((ByteArray.mk s.toArray).toList == (ByteArray.mk #[]).toList)) == false) = true := by rw [fu1]; rfl
  refine ld1 1 rfl rfl ?_
  refine ct fa2 ?_
  refine ct fa2 ?_
  refine ld1 1 rfl rfl ?_
  refine ct fa2 ?_
  refine cf fa1 ?_
  refine ct fb2 ?_
  refine ct fb2 ?_
  refine ld1 1 rfl rfl ?_
  refine ct fb2 ?_
  refine ct fb2 ?_
  refine ct fc2 ?_
  refine ct fc2 ?_
  refine ld1 1 rfl rfl ?_
  refine ct fc2 ?_
  refine ct fc2 ?_
  refine ct fb2 ?_
  refine ct fc1 ?_
  refine cf fb1 ?_
  refine ct fl2 ?_
  refine ct fl2 ?_
  refine ld1 1 rfl rfl ?_
  refine ct fl2 ?_
  refine ct fl2 ?_
  refine ct fe2 ?_
  refine ct fe2 ?_
  refine ld1 1 rfl rfl ?_
  refine ct fe2 ?_
  refine ct fe2 ?_
  refine ct fl2 ?_
  refine ct fe1 ?_
  refine cf fl1 ?_
  refine ct fq2 ?_
  refine ct fq2 ?_
  refine ld1 1 rfl rfl ?_
  refine ct fq2 ?_
  refine ct fq2 ?_
  refine ct ff2 ?_
  refine ct ff2 ?_
  refine ld1 1 rfl rfl ?_
  refine ct ff2 ?_
  refine ct fq2 ?_
  refine ct ff1 ?_
  refine cf fq1 ?_
  refine cf fu1 ?_
  have fh1 : (i != 0) = true := by simp [hi]
  have fh2 : ((i != 0) == true) = true := by rw [fh1]; rfl
  have fi1 : (i != 1) = false := by simp [hj]
  have fi2 : ((i != 1) == false) = true := by rw [fi1]; rfl
  refine ld1 1 rfl rfl ?_
  refine ct fg2 ?_
  refine ct fg2 ?_
  refine ld1 1 rfl rfl ?_
  refine ct fg2 ?_
  refine ct fg1 ?_
  refine ct fh2 ?_
  refine ct fh2 ?_
  refine ld1 1 rfl rfl ?_
  refine ct fh2 ?_
  refine ct fh1 ?_
  refine ct fi2 ?_
  refine ct fi2 ?_
  refine ld1 1 rfl rfl ?_
  refine ct fi2 ?_
  refine ct fi2 ?_
  refine cf fj2 ?_
  refine cf fj2 ?_
  refine cf fj2 ?_
  refine cf fj2 ?_
  refine cf fj2 ?_
  refine ct fi2 ?_
  refine cf fj1 ?_
  refine cf fi1 ?_
  refine ct rfl ?_
  refine ct rfl ?_
  refine ld1 1 rfl rfl ?_
  refine ct rfl ?_
  refine ct rfl ?_
  refine cf fn2 ?_
  refine cf fn2 ?_
  refine cf fn2 ?_
  refine ct rfl ?_
  refine cf fn1 ?_
  refine ct rfl ?_
  refine cf rfl ?_
  refine cf rfl ?_
  refine cf rfl ?_
  refine ct rfl ?_
  refine cf rfl ?_
  refine cf rfl ?_
  refine cf rfl ?_
  refine ld1 1 rfl rfl ?_
  refine cf fr2 ?_
  refine cf fr2 ?_
  refine cf fr2 ?_
  refine cf fr2 ?_
  refine cf fr1 ?_
  refine ct rfl ?_
  refine ct rfl ?_
  refine ld1 1 rfl rfl ?_
  refine ct rfl ?_
  refine ct rfl ?_
  refine cf fs2 ?_
  refine cf fs2 ?_
  refine ct rfl ?_
  refine cf fs1 ?_
  refine cf rfl ?_
  refine cf rfl ?_
  have hspec : sndG S deep (.mk k i s l' p') = (l'.all S && prsK S [] p') := by unfold sndG; simp [*, prsK]
  have hdp : l' ≠ [] ∨ p' ≠ [] → d < 8 := fun h => by rcases h with h | h; exact absurd hl h; exact absurd hp h
  rotate_left
  have fa1 : decide (k < 0) = false := by rw [hk]; decide
  have fa2 : (decide (k < 0) == false) = true := by rw [fa1]; rfl
  have fb1 : decide (k > 5) = false := by rw [hk]; decide
  have fb2 : (decide (k > 5) == false) = true := by rw [fb1]; rfl
  have fc1 : (k != 4) = true := by rw [hk]; decide
  have fc2 : ((k != 4) == true) = true := by rw [fc1]; rfl
  have fe1 : (k != 5) = true := by rw [hk]; decide
  have fe2 : ((k != 5) == true) = true := by rw [fe1]; rfl
  have ff1 : (k != 3) = true := by rw [hk]; decide
  have ff2 : ((k != 3) == true) = true := by rw [ff1]; rfl
  have fg1 : (k == 1) = true := by rw [hk]; decide
  have fg2 : ((k == 1) == true) = true := by rw [fg1]; rfl
  have fj1 : (k == 2) = false := by rw [hk]; decide
  have fj2 : ((k == 2) == true) = false := by rw [fj1]; rfl
  have fn1 : (k != 1) = false := by rw [hk]; decide
  have fn2 : ((k != 1) == true) = false := by rw [fn1]; rfl
  have fo1 : (k != 2) = true := by rw [hk]; decide
  have fo2 : ((k != 2) == true) = true := by rw [fo1]; rfl
  have fr1 : (k == 3) = false := by rw [hk]; decide
  have fr2 : ((k == 3) == true) = false := by rw [fr1]; rfl
  have fs1 : decide (k ≥ 4) = false := by rw [hk]; decide
  have fs2 : (decide (k ≥ 4) == true) = false := by rw [fs1]; rfl
  by_cases hl : l' = []
  case neg =>
    have fl1 : decide ((l.length : Int) > 0) = true := decide_eq_true (by have := List.length_pos_iff.2 hl; omega)
    have fl2 : (decide ((l.length : Int) > 0) == false) = false := by rw [fl1]; rfl
    refine ld1 1 rfl rfl ?_
    refine ct fa2 ?_
    refine ct fa2 ?_
    refine ld1 1 rfl rfl ?_
    refine ct fa2 ?_
    refine cf fa1 ?_
    refine ct fb2 ?_
    refine ct fb2 ?_
    refine ld1 1 rfl rfl ?_
    refine ct fb2 ?_
    refine ct fb2 ?_
    refine ct fc2 ?_
    refine ct fc2 ?_
    refine ld1 1 rfl rfl ?_
    refine ct fc2 ?_
    refine ct fc2 ?_
    refine ct fb2 ?_
    refine ct fc1 ?_
    refine cf fb1 ?_
    refine cf fl2 ?_
    refine cf fl2 ?_
    refine cf fl2 ?_
    refine cf fl2 ?_
    refine cf fl2 ?_
    refine ct fl1 ?_
    refine cf rfl ?_
    refine cf rfl ?_
    refine cf rfl ?_
    refine cf rfl ?_
    refine cf rfl ?_
    refine ct rfl ?_
    refine ct rfl ?_
    exact rt (congrArg Value.bool (by unfold sndG; simp [*]))
  have fl1 : decide ((l.length : Int) > 0) = false := decide_eq_false (by rw [hll, hl]; simp)
  have fl2 : (decide ((l.length : Int) > 0) == false) = true := by rw [fl1]; rfl
  by_cases hp : p' = []
  case neg =>
    have fq1 : decide ((p.length : Int) > 0) = true := decide_eq_true (by have := List.length_pos_iff.2 hp; omega)
    have fq2 : (decide ((p.length : Int) > 0) == false) = false := by rw [fq1]; rfl
    refine ld1 1 rfl rfl ?_
    refine ct fa2 ?_
    refine ct fa2 ?_
    refine ld1 1 rfl rfl ?_
    refine ct fa2 ?_
    refine cf fa1 ?_
    refine ct fb2 ?_
    refine ct fb2 ?_
    refine ld1 1 rfl rfl ?_
    refine ct fb2 ?_
    refine ct fb2 ?_
    refine ct fc2 ?_
    refine ct fc2 ?_
    refine ld1 1 rfl rfl ?_
    refine ct fc2 ?_
    refine ct fc2 ?_
    refine ct fb2 ?_
    refine ct fc1 ?_
    refine cf fb1 ?_
    refine ct fl2 ?_
    refine ct fl2 ?_
    refine ld1 1 rfl rfl ?_
    refine ct fl2 ?_
    refine ct fl2 ?_
    refine ct fe2 ?_
    refine ct fe2 ?_
    refine ld1 1 rfl rfl ?_
    refine ct fe2 ?_
    refine ct fe2 ?_
    refine ct fl2 ?_
    refine ct fe1 ?_
    refine cf fl1 ?_
    refine cf fq2 ?_
    refine cf fq2 ?_
    refine cf fq2 ?_
    refine cf fq2 ?_
    refine cf fq2 ?_
    refine ct fq1 ?_
    refine ct rfl ?_
    exact rt (congrArg Value.bool (by unfold sndG; simp [*]))
  have fq1 : decide ((p.length : Int) > 0) = false := decide_eq_false (by rw [hlp, hp]; simp)
  have fq2 : (decide ((p.length : Int) > 0) == false) = true := by rw [fq1]; rfl
  by_cases hs : s = []
  case neg =>
    have fu1 : (!((ByteArray.mk s.toArray).toList == (ByteArray.mk #[]).toList)) = true := by rw [show (#[] : Array UInt8) = ([] : Bs).toArray from rfl, list_beq]; simp [hs]
    have fu2 : ((!((ByteArray.mk s.toArray).toList == (ByteArray.mk #[]).toList)) == false) = false := by rw [fu1]; rfl
    refine ld1 1 rfl rfl ?_
    refine ct fa2 ?_
    refine ct fa2 ?_
    refine ld1 1 rfl rfl ?_
    refine ct fa2 ?_
    refine cf fa1 ?_
    refine ct fb2 ?_
    refine ct fb2 ?_
    refine ld1 1 rfl rfl ?_
    refine ct fb2 ?_
    refine ct fb2 ?_
    refine ct fc2 ?_
    refine ct fc2 ?_
    refine ld1 1 rfl rfl ?_
    refine ct fc2 ?_
    refine ct fc2 ?_
    refine ct fb2 ?_
    refine ct fc1 ?_
    refine cf fb1 ?_
    refine ct fl2 ?_
    refine ct fl2 ?_
    refine ld1 1 rfl rfl ?_
    refine ct fl2 ?_
    refine ct fl2 ?_
    refine ct fe2 ?_
    refine ct fe2 ?_
    refine ld1 1 rfl rfl ?_
    refine ct fe2 ?_
    refine ct fe2 ?_
    refine ct fl2 ?_
    refine ct fe1 ?_
    refine cf fl1 ?_
    refine ct fq2 ?_
    refine ct fq2 ?_
    refine ld1 1 rfl rfl ?_
    refine ct fq2 ?_
    refine ct fq2 ?_
    refine ct ff2 ?_
    refine ct ff2 ?_
    refine ld1 1 rfl rfl ?_
    refine ct ff2 ?_
    refine ct fq2 ?_
    refine ct ff1 ?_
    refine cf fq1 ?_
    refine ct fu1 ?_
    exact rt (congrArg Value.bool (by unfold sndG; simp [*]))
  have fu1 : (!((ByteArray.mk s.toArray).toList == (ByteArray.mk #[]).toList)) = false := by rw [show (#[] : Array UInt8) = ([] : Bs).toArray from rfl, list_beq]; simp [hs]
  have fu2 : ((!((ByteArray.mk s.toArray).toList == (ByteArray.mk #[]).toList)) == false) = true := by rw [fu1]; rfl
  refine ld1 1 rfl rfl ?_
  refine ct fa2 ?_
  refine ct fa2 ?_
  refine ld1 1 rfl rfl ?_
  refine ct fa2 ?_
  refine cf fa1 ?_
  refine ct fb2 ?_
  refine ct fb2 ?_
  refine ld1 1 rfl rfl ?_
  refine ct fb2 ?_
  refine ct fb2 ?_
  refine ct fc2 ?_
  refine ct fc2 ?_
  refine ld1 1 rfl rfl ?_
  refine ct fc2 ?_
  refine ct fc2 ?_
  refine ct fb2 ?_
  refine ct fc1 ?_
  refine cf fb1 ?_
  refine ct fl2 ?_
  refine ct fl2 ?_
  refine ld1 1 rfl rfl ?_
  refine ct fl2 ?_
  refine ct fl2 ?_
  refine ct fe2 ?_
  refine ct fe2 ?_
  refine ld1 1 rfl rfl ?_
  refine ct fe2 ?_
  refine ct fe2 ?_
  refine ct fl2 ?_
  refine ct fe1 ?_
  refine cf fl1 ?_
  refine ct fq2 ?_
  refine ct fq2 ?_
  refine ld1 1 rfl rfl ?_
  refine ct fq2 ?_
  refine ct fq2 ?_
  refine ct ff2 ?_
  refine ct ff2 ?_
  refine ld1 1 rfl rfl ?_
  refine ct ff2 ?_
  refine ct fq2 ?_
  refine ct ff1 ?_
  refine cf fq1 ?_
  refine cf fu1 ?_
  have fh1 : (i != 0) = true := by simp [hi]
  have fh2 : ((i != 0) == true) = true := by rw [fh1]; rfl
  have fi1 : (i != 1) = true := by simp [hj]
  have fi2 : ((i != 1) == false) = false := by rw [fi1]; rfl
  refine ld1 1 rfl rfl ?_
  refine ct fg2 ?_
  refine ct fg2 ?_
  refine ld1 1 rfl rfl ?_
  refine ct fg2 ?_
  refine ct fg1 ?_
  refine ct fh2 ?_
  refine ct fh2 ?_
  refine ld1 1 rfl rfl ?_
  refine ct fh2 ?_
  refine ct fh1 ?_
  refine cf fi2 ?_
  refine cf fi2 ?_
  refine cf fi2 ?_
  refine cf fi2 ?_
  refine cf fi2 ?_
  refine ct fi1 ?_
  refine cf rfl ?_
  refine cf rfl ?_
  refine cf rfl ?_
  refine cf rfl ?_
  refine cf rfl ?_
  refine cf rfl ?_
  refine cf rfl ?_
  refine ct rfl ?_
  refine ct rfl ?_
  exact rt (congrArg Value.bool (by unfold sndG; simp [*]))
  have fa1 : decide (k < 0) = false := by rw [hk]; decide
  have fa2 : (decide (k < 0) == false) = true := by rw [fa1]; rfl
  have fb1 : decide (k > 5) = false := by rw [hk]; decide
  have fb2 : (decide (k > 5) == false) = true := by rw [fb1]; rfl
  have fc1 : (k != 4) = true := by rw [hk]; decide
  have fc2 : ((k != 4) == true) = true := by rw [fc1]; rfl
  have fe1 : (k != 5) = true := by rw [hk]; decide
  have fe2 : ((k != 5) == true) = true := by rw [fe1]; rfl
  have ff1 : (k != 3) = true := by rw [hk]; decide
  have ff2 : ((k != 3) == true) = true := by rw [ff1]; rfl
  have fg1 : (k == 1) = false := by rw [hk]; decide
  have fg2 : ((k == 1) == true) = false := by rw [fg1]; rfl
  have fj1 : (k == 2) = true := by rw [hk]; decide
  have fj2 : ((k == 2) == true) = true := by rw [fj1]; rfl
  have fn1 : (k != 1) = true := by rw [hk]; decide
  have fn2 : ((k != 1) == true) = true := by rw [fn1]; rfl
  have fo1 : (k != 2) = false := by rw [hk]; decide
  have fo2 : ((k != 2) == true) = false := by rw [fo1]; rfl
  have fr1 : (k == 3) = false := by rw [hk]; decide
  have fr2 : ((k == 3) == true) = false := by rw [fr1]; rfl
  have fs1 : decide (k ≥ 4) = false := by rw [hk]; decide
  have fs2 : (decide (k ≥ 4) == true) = false := by rw [fs1]; rfl
  by_cases hl : l' = []
  case neg =>
    have fl1 : decide ((l.length : Int) > 0) = true := decide_eq_true (by have := List.length_pos_iff.2 hl; omega)
    have fl2 : (decide ((l.length : Int) > 0) == false) = false := by rw [fl1]; rfl
    refine ld1 1 rfl rfl ?_
    refine ct fa2 ?_
    refine ct fa2 ?_
    refine ld1 1 rfl rfl ?_
    refine ct fa2 ?_
    refine cf fa1 ?_
    refine ct fb2 ?_
    refine ct fb2 ?_
    refine ld1 1 rfl rfl ?_
    refine ct fb2 ?_
    refine ct fb2 ?_
    refine ct fc2 ?_
    refine ct fc2 ?_
    refine ld1 1 rfl rfl ?_
    refine ct fc2 ?_
    refine ct fc2 ?_
    refine ct fb2 ?_
    refine ct fc1 ?_
    refine cf fb1 ?_
    refine cf fl2 ?_
    refine cf fl2 ?_
    refine cf fl2 ?_
    refine cf fl2 ?_
    refine cf fl2 ?_
    refine ct fl1 ?_
    refine cf rfl ?_
    refine cf rfl ?_
    refine cf rfl ?_
    refine cf rfl ?_
    refine cf rfl ?_
    refine ct rfl ?_
    refine ct rfl ?_
    exact rt (congrArg Value.bool (by unfold sndG; simp [*]))
  have fl1 : decide ((l.length : Int) > 0) = false := decide_eq_false (by rw [hll, hl]; simp)
  have fl2 : (decide ((l.length : Int) > 0) == false) = true := by rw [fl1]; rfl
  by_cases hp : p' = []
  case neg =>
    have fq1 : decide ((p.length : Int) > 0) = true := decide_eq_true (by have := List.length_pos_iff.2 hp; omega)
    have fq2 : (decide ((p.length : Int) > 0) == false) = false := by rw [fq1]; rfl
    refine ld1 1 rfl rfl ?_
    refine ct fa2 ?_
    refine ct fa2 ?_
    refine ld1 1 rfl rfl ?_
    refine ct fa2 ?_
    refine cf fa1 ?_
    refine ct fb2 ?_
    refine ct fb2 ?_
    refine ld1 1 rfl rfl ?_
    refine ct fb2 ?_
    refine ct fb2 ?_
    refine ct fc2 ?_
    refine ct fc2 ?_
    refine ld1 1 rfl rfl ?_
    refine ct fc2 ?_
    refine ct fc2 ?_
    refine ct fb2 ?_
    refine ct fc1 ?_
    refine cf fb1 ?_
    refine ct fl2 ?_
    refine ct fl2 ?_
    refine ld1 1 rfl rfl ?_
    refine ct fl2 ?_
    refine ct fl2 ?_
    refine ct fe2 ?_
    refine ct fe2 ?_
    refine ld1 1 rfl rfl ?_
    refine ct fe2 ?_
    refine ct fe2 ?_
    refine ct fl2 ?_
    refine ct fe1 ?_
    refine cf fl1 ?_
    refine cf fq2 ?_
    refine cf fq2 ?_
    refine cf fq2 ?_
    refine cf fq2 ?_
    refine cf fq2 ?_
    refine ct fq1 ?_
    refine ct rfl ?_
    exact rt (congrArg Value.bool (by unfold sndG; simp [*]))
  have fq1 : decide ((p.length : Int) > 0) = false := decide_eq_false (by rw [hlp, hp]; simp)
  have fq2 : (decide ((p.length : Int) > 0) == false) = true := by rw [fq1]; rfl
  by_cases hs : s = []
  case neg =>
    have fu1 : (!((ByteArray.mk s.toArray).toList == (ByteArray.mk #[]).toList)) = true := by rw [show (#[] : Array UInt8) = ([] : Bs).toArray from rfl, list_beq]; simp [hs]
    have fu2 : ((!((ByteArray.mk s.toArray).toList == (ByteArray.mk #[]).toList)) == false) = false := by rw [fu1]; rfl
    refine ld1 1 rfl rfl ?_
    refine ct fa2 ?_
    refine ct fa2 ?_
    refine ld1 1 rfl rfl ?_
    refine ct fa2 ?_
    refine cf fa1 ?_
    refine ct fb2 ?_
    refine ct fb2 ?_
    refine ld1 1 rfl rfl ?_
    refine ct fb2 ?_
    refine ct fb2 ?_
    refine ct fc2 ?_
    refine ct fc2 ?_
    refine ld1 1 rfl rfl ?_
    refine ct fc2 ?_
    refine ct fc2 ?_
    refine ct fb2 ?_
    refine ct fc1 ?_
    refine cf fb1 ?_
    refine ct fl2 ?_
    refine ct fl2 ?_
    refine ld1 1 rfl rfl ?_
    refine ct fl2 ?_
    refine ct fl2 ?_
    refine ct fe2 ?_
    refine ct fe2 ?_
    refine ld1 1 rfl rfl ?_
    refine ct fe2 ?_
    refine ct fe2 ?_
    refine ct fl2 ?_
    refine ct fe1 ?_
    refine cf fl1 ?_
    refine ct fq2 ?_
    refine ct fq2 ?_
    refine ld1 1 rfl rfl ?_
    refine ct fq2 ?_
    refine ct fq2 ?_
    refine ct ff2 ?_
    refine ct ff2 ?_
    refine ld1 1 rfl rfl ?_
    refine ct ff2 ?_
    refine ct fq2 ?_
    refine ct ff1 ?_
    refine cf fq1 ?_
    refine ct fu1 ?_
    exact rt (congrArg Value.bool (by unfold sndG; simp [*]))
  have fu1 : (!((ByteArray.mk s.toArray).toList == (ByteArray.mk #[]).toList)) = false := by rw [show (#[] : Array UInt8) = ([] : Bs).toArray from rfl, list_beq]; simp [hs]
  have fu2 : ((!((ByteArray.mk s.toArray).toList == (ByteArray.mk #[]).toList)) == false) = true := by rw [fu1]; rfl
  refine ld1 1 rfl rfl ?_
  refine ct fa2 ?_
  refine ct fa2 ?_
  refine ld1 1 rfl rfl ?_
  refine ct fa2 ?_
  refine cf fa1 ?_
  refine ct fb2 ?_
  refine ct fb2 ?_
  refine ld1 1 rfl rfl ?_
  refine ct fb2 ?_
  refine ct fb2 ?_
  refine ct fc2 ?_
  refine ct fc2 ?_
  refine ld1 1 rfl rfl ?_
  refine ct fc2 ?_
  refine ct fc2 ?_
  refine ct fb2 ?_
  refine ct fc1 ?_
  refine cf fb1 ?_
  refine ct fl2 ?_
  refine ct fl2 ?_
  refine ld1 1 rfl rfl ?_
  refine ct fl2 ?_
  refine ct fl2 ?_
  refine ct fe2 ?_
  refine ct fe2 ?_
  refine ld1 1 rfl rfl ?_
  refine ct fe2 ?_
  refine ct fe2 ?_
  refine ct fl2 ?_
  refine ct fe1 ?_
  refine cf fl1 ?_
  refine ct fq2 ?_
  refine ct fq2 ?_
  refine ld1 1 rfl rfl ?_
  refine ct fq2 ?_
  refine ct fq2 ?_
  refine ct ff2 ?_
  refine ct ff2 ?_
  refine ld1 1 rfl rfl ?_
  refine ct ff2 ?_
  refine ct fq2 ?_
  refine ct ff1 ?_
  refine cf fq1 ?_
  refine cf fu1 ?_
  by_cases hlo : ¬ i < -9007199254740991
  case neg =>
    have fk1 : decide (i < -9007199254740991) = true := decide_eq_true (by omega)
    have fk2 : (decide (i < -9007199254740991) == false) = false := by rw [fk1]; rfl
    refine ld1 1 rfl rfl ?_
    refine cf fg2 ?_
    refine cf fg2 ?_
    refine cf fg2 ?_
    refine cf fg1 ?_
    refine cf rfl ?_
    refine cf rfl ?_
    refine cf rfl ?_
    refine cf rfl ?_
    refine ct rfl ?_
    refine ct rfl ?_
    refine ld1 1 rfl rfl ?_
    refine ct rfl ?_
    refine ct rfl ?_
    refine ct fj2 ?_
    refine ct fj2 ?_
    refine ld1 1 rfl rfl ?_
    refine ct fj2 ?_
    refine ct fj2 ?_
    refine cf fk2 ?_
    refine cf fk2 ?_
    refine cf fk2 ?_
    refine ct fj2 ?_
    refine ct fk1 ?_
    refine ct rfl ?_
    refine ct fj1 ?_
    refine cf rfl ?_
    refine cf rfl ?_
    refine cf rfl ?_
    refine cf rfl ?_
    refine cf rfl ?_
    refine cf rfl ?_
    refine cf rfl ?_
    refine cf rfl ?_
    refine ct rfl ?_
    refine ct rfl ?_
    exact rt (congrArg Value.bool (by unfold sndG; simp [*]; omega))
  have fk1 : decide (i < -9007199254740991) = false := decide_eq_false (by omega)
  have fk2 : (decide (i < -9007199254740991) == false) = true := by rw [fk1]; rfl
  by_cases hhi : ¬ i > 9007199254740991
  case neg =>
    have fm1 : decide (i > 9007199254740991) = true := decide_eq_true (by omega)
    have fm2 : (decide (i > 9007199254740991) == false) = false := by rw [fm1]; rfl
    refine ld1 1 rfl rfl ?_
    refine cf fg2 ?_
    refine cf fg2 ?_
    refine cf fg2 ?_
    refine cf fg1 ?_
    refine cf rfl ?_
    refine cf rfl ?_
    refine cf rfl ?_
    refine cf rfl ?_
    refine ct rfl ?_
    refine ct rfl ?_
    refine ld1 1 rfl rfl ?_
    refine ct rfl ?_
    refine ct rfl ?_
    refine ct fj2 ?_
    refine ct fj2 ?_
    refine ld1 1 rfl rfl ?_
    refine ct fj2 ?_
    refine ct fj2 ?_
    refine ct fk2 ?_
    refine ct fk2 ?_
    refine ld1 1 rfl rfl ?_
    refine ct fk2 ?_
    refine ct fj2 ?_
    refine cf fk1 ?_
    refine ct rfl ?_
    refine ct fj1 ?_
    refine cf rfl ?_
    refine cf fm2 ?_
    refine cf fm2 ?_
    refine cf fm2 ?_
    refine cf fm2 ?_
    refine cf fm2 ?_
    refine cf fm2 ?_
    refine cf fm2 ?_
    refine ct fm1 ?_
    refine ct rfl ?_
    exact rt (congrArg Value.bool (by unfold sndG; simp [*]; omega))
  have fm1 : decide (i > 9007199254740991) = false := decide_eq_false (by omega)
  have fm2 : (decide (i > 9007199254740991) == false) = true := by rw [fm1]; rfl
  refine ld1 1 rfl rfl ?_
  refine cf fg2 ?_
  refine cf fg2 ?_
  refine cf fg2 ?_
  refine cf fg1 ?_
  refine cf rfl ?_
  refine cf rfl ?_
  refine cf rfl ?_
  refine cf rfl ?_
  refine ct rfl ?_
  refine ct rfl ?_
  refine ld1 1 rfl rfl ?_
  refine ct rfl ?_
  refine ct rfl ?_
  refine ct fj2 ?_
  refine ct fj2 ?_
  refine ld1 1 rfl rfl ?_
  refine ct fj2 ?_
  refine ct fj2 ?_
  refine ct fk2 ?_
  refine ct fk2 ?_
  refine ld1 1 rfl rfl ?_
  refine ct fk2 ?_
  refine ct fj2 ?_
  refine cf fk1 ?_
  refine ct rfl ?_
  refine ct fj1 ?_
  refine cf rfl ?_
  refine ct fm2 ?_
  refine ct fm2 ?_
  refine ld1 1 rfl rfl ?_
  refine ct fm2 ?_
  refine ct fm2 ?_
  refine ct fn2 ?_
  refine ct fn2 ?_
  refine ld1 1 rfl rfl ?_
  refine ct fn2 ?_
  refine ct fm2 ?_
  refine ct fn1 ?_
  refine ct fm2 ?_
  refine cf fo2 ?_
  refine cf fo2 ?_
  refine cf fo2 ?_
  refine ct fm2 ?_
  refine cf fo1 ?_
  refine cf fm1 ?_
  refine cf rfl ?_
  refine ld1 1 rfl rfl ?_
  refine cf fr2 ?_
  refine cf fr2 ?_
  refine cf fr2 ?_
  refine cf fr2 ?_
  refine cf fr1 ?_
  refine ct rfl ?_
  refine ct rfl ?_
  refine ld1 1 rfl rfl ?_
  refine ct rfl ?_
  refine ct rfl ?_
  refine cf fs2 ?_
  refine cf fs2 ?_
  refine ct rfl ?_
  refine cf fs1 ?_
  refine cf rfl ?_
  refine cf rfl ?_
  have hspec : sndG S deep (.mk k i s l' p') = (l'.all S && prsK S [] p') := by unfold sndG; simp [*, prsK]; omega
  have hdp : l' ≠ [] ∨ p' ≠ [] → d < 8 := fun h => by rcases h with h | h; exact absurd hl h; exact absurd hp h
  rotate_left
  have fa1 : decide (k < 0) = false := by rw [hk]; decide
  have fa2 : (decide (k < 0) == false) = true := by rw [fa1]; rfl
  have fb1 : decide (k > 5) = false := by rw [hk]; decide
  have fb2 : (decide (k > 5) == false) = true := by rw [fb1]; rfl
  have fc1 : (k != 4) = true := by rw [hk]; decide
  have fc2 : ((k != 4) == true) = true := by rw [fc1]; rfl
  have fe1 : (k != 5) = true := by rw [hk]; decide
  have fe2 : ((k != 5) == true) = true := by rw [fe1]; rfl
  have ff1 : (k != 3) = false := by rw [hk]; decide
  have ff2 : ((k != 3) == true) = false := by rw [ff1]; rfl
  have fg1 : (k == 1) = false := by rw [hk]; decide
  have fg2 : ((k == 1) == true) = false := by rw [fg1]; rfl
  have fj1 : (k == 2) = false := by rw [hk]; decide
  have fj2 : ((k == 2) == true) = false := by rw [fj1]; rfl
  have fn1 : (k != 1) = true := by rw [hk]; decide
  have fn2 : ((k != 1) == true) = true := by rw [fn1]; rfl
  have fo1 : (k != 2) = true := by rw [hk]; decide
  have fo2 : ((k != 2) == true) = true := by rw [fo1]; rfl
  have fr1 : (k == 3) = true := by rw [hk]; decide
  have fr2 : ((k == 3) == true) = true := by rw [fr1]; rfl
  have fs1 : decide (k ≥ 4) = false := by rw [hk]; decide
  have fs2 : (decide (k ≥ 4) == true) = false := by rw [fs1]; rfl
  by_cases hl : l' = []
  case neg =>
    have fl1 : decide ((l.length : Int) > 0) = true := decide_eq_true (by have := List.length_pos_iff.2 hl; omega)
    have fl2 : (decide ((l.length : Int) > 0) == false) = false := by rw [fl1]; rfl
    refine ld1 1 rfl rfl ?_
    refine ct fa2 ?_
    refine ct fa2 ?_
    refine ld1 1 rfl rfl ?_
    refine ct fa2 ?_
    refine cf fa1 ?_
    refine ct fb2 ?_
    refine ct fb2 ?_
    refine ld1 1 rfl rfl ?_
    refine ct fb2 ?_
    refine ct fb2 ?_
    refine ct fc2 ?_
    refine ct fc2 ?_
    refine ld1 1 rfl rfl ?_
    refine ct fc2 ?_
    refine ct fc2 ?_
    refine ct fb2 ?_
    refine ct fc1 ?_
    refine cf fb1 ?_
    refine cf fl2 ?_
    refine cf fl2 ?_
    refine cf fl2 ?_
    refine cf fl2 ?_
    refine cf fl2 ?_
    refine ct fl1 ?_
    refine cf rfl ?_
    refine cf rfl ?_
    refine cf rfl ?_
    refine cf rfl ?_
    refine cf rfl ?_
    refine ct rfl ?_
    refine ct rfl ?_
    exact rt (congrArg Value.bool (by unfold sndG; simp [*]))
  have fl1 : decide ((l.length : Int) > 0) = false := decide_eq_false (by rw [hll, hl]; simp)
  have fl2 : (decide ((l.length : Int) > 0) == false) = true := by rw [fl1]; rfl
  by_cases hp : p' = []
  case neg =>
    have fq1 : decide ((p.length : Int) > 0) = true := decide_eq_true (by have := List.length_pos_iff.2 hp; omega)
    have fq2 : (decide ((p.length : Int) > 0) == false) = false := by rw [fq1]; rfl
    refine ld1 1 rfl rfl ?_
    refine ct fa2 ?_
    refine ct fa2 ?_
    refine ld1 1 rfl rfl ?_
    refine ct fa2 ?_
    refine cf fa1 ?_
    refine ct fb2 ?_
    refine ct fb2 ?_
    refine ld1 1 rfl rfl ?_
    refine ct fb2 ?_
    refine ct fb2 ?_
    refine ct fc2 ?_
    refine ct fc2 ?_
    refine ld1 1 rfl rfl ?_
    refine ct fc2 ?_
    refine ct fc2 ?_
    refine ct fb2 ?_
    refine ct fc1 ?_
    refine cf fb1 ?_
    refine ct fl2 ?_
    refine ct fl2 ?_
    refine ld1 1 rfl rfl ?_
    refine ct fl2 ?_
    refine ct fl2 ?_
    refine ct fe2 ?_
    refine ct fe2 ?_
    refine ld1 1 rfl rfl ?_
    refine ct fe2 ?_
    refine ct fe2 ?_
    refine ct fl2 ?_
    refine ct fe1 ?_
    refine cf fl1 ?_
    refine cf fq2 ?_
    refine cf fq2 ?_
    refine cf fq2 ?_
    refine cf fq2 ?_
    refine cf fq2 ?_
    refine ct fq1 ?_
    refine ct rfl ?_
    exact rt (congrArg Value.bool (by unfold sndG; simp [*]))
  have fq1 : decide ((p.length : Int) > 0) = false := decide_eq_false (by rw [hlp, hp]; simp)
  have fq2 : (decide ((p.length : Int) > 0) == false) = true := by rw [fq1]; rfl
  refine ld1 1 rfl rfl ?_
  refine ct fa2 ?_
  refine ct fa2 ?_
  refine ld1 1 rfl rfl ?_
  refine ct fa2 ?_
  refine cf fa1 ?_
  refine ct fb2 ?_
  refine ct fb2 ?_
  refine ld1 1 rfl rfl ?_
  refine ct fb2 ?_
  refine ct fb2 ?_
  refine ct fc2 ?_
  refine ct fc2 ?_
  refine ld1 1 rfl rfl ?_
  refine ct fc2 ?_
  refine ct fc2 ?_
  refine ct fb2 ?_
  refine ct fc1 ?_
  refine cf fb1 ?_
  refine ct fl2 ?_
  refine ct fl2 ?_
  refine ld1 1 rfl rfl ?_
  refine ct fl2 ?_
  refine ct fl2 ?_
  refine ct fe2 ?_
  refine ct fe2 ?_
  refine ld1 1 rfl rfl ?_
  refine ct fe2 ?_
  refine ct fe2 ?_
  refine ct fl2 ?_
  refine ct fe1 ?_
  refine cf fl1 ?_
  refine ct fq2 ?_
  refine ct fq2 ?_
  refine ld1 1 rfl rfl ?_
  refine ct fq2 ?_
  refine ct fq2 ?_
  refine cf ff2 ?_
  refine cf ff2 ?_
  refine cf ff2 ?_
  refine ct fq2 ?_
  refine cf ff1 ?_
  refine cf fq1 ?_
  refine cf rfl ?_
  by_cases hi : i = 0
  case neg =>
    have fp1 : (i != 0) = true := by simp [hi]
    have fp2 : ((i != 0) == false) = false := by rw [fp1]; rfl
    refine ld1 1 rfl rfl ?_
    refine cf fg2 ?_
    refine cf fg2 ?_
    refine cf fg2 ?_
    refine cf fg1 ?_
    refine cf rfl ?_
    refine cf rfl ?_
    refine cf rfl ?_
    refine cf rfl ?_
    refine ct rfl ?_
    refine ct rfl ?_
    refine ld1 1 rfl rfl ?_
    refine ct rfl ?_
    refine ct rfl ?_
    refine cf fj2 ?_
    refine cf fj2 ?_
    refine cf fj2 ?_
    refine cf fj2 ?_
    refine cf fj2 ?_
    refine ct rfl ?_
    refine cf fj1 ?_
    refine cf rfl ?_
    refine ct rfl ?_
    refine ct rfl ?_
    refine ld1 1 rfl rfl ?_
    refine ct rfl ?_
    refine ct rfl ?_
    refine ct fn2 ?_
    refine ct fn2 ?_
    refine ld1 1 rfl rfl ?_
    refine ct fn2 ?_
    refine ct rfl ?_
    refine ct fn1 ?_
    refine ct rfl ?_
    refine ct fo2 ?_
    refine ct fo2 ?_
    refine ld1 1 rfl rfl ?_
    refine ct fo2 ?_
    refine ct rfl ?_
    refine ct fo1 ?_
    refine cf rfl ?_
    refine ct fp1 ?_
    exact rt (congrArg Value.bool (by unfold sndG; simp [*]))
  have fp1 : (i != 0) = false := by simp [hi]
  have fp2 : ((i != 0) == false) = true := by rw [fp1]; rfl
  refine ld1 1 rfl rfl ?_
  refine cf fg2 ?_
  refine cf fg2 ?_
  refine cf fg2 ?_
  refine cf fg1 ?_
  refine cf rfl ?_
  refine cf rfl ?_
  refine cf rfl ?_
  refine cf rfl ?_
  refine ct rfl ?_
  refine ct rfl ?_
  refine ld1 1 rfl rfl ?_
  refine ct rfl ?_
  refine ct rfl ?_
  refine cf fj2 ?_
  refine cf fj2 ?_
  refine cf fj2 ?_
  refine cf fj2 ?_
  refine cf fj2 ?_
  refine ct rfl ?_
  refine cf fj1 ?_
  refine cf rfl ?_
  refine ct rfl ?_
  refine ct rfl ?_
  refine ld1 1 rfl rfl ?_
  refine ct rfl ?_
  refine ct rfl ?_
  refine ct fn2 ?_
  refine ct fn2 ?_
  refine ld1 1 rfl rfl ?_
  refine ct fn2 ?_
  refine ct rfl ?_
  refine ct fn1 ?_
  refine ct rfl ?_
  refine ct fo2 ?_
  refine ct fo2 ?_
  refine ld1 1 rfl rfl ?_
  refine ct fo2 ?_
  refine ct rfl ?_
  refine ct fo1 ?_
  refine cf rfl ?_
  refine cf fp1 ?_
  by_cases hv : validP s = true
  case neg =>
    have hv : validP s = false := by simpa using hv
    have hvr := fun (w : World) => valid_ref s w
    rw [hv] at hvr
    refine ld1 1 rfl rfl ?_
    refine ct fr2 ?_
    refine ct fr2 ?_
    refine ld1 1 rfl rfl ?_
    refine ct fr2 ?_
    refine cv (fun w => hvr w) ?_
    refine ct fr2 ?_
    refine ct fr1 ?_
    refine cf rfl ?_
    refine cf rfl ?_
    refine cf rfl ?_
    refine cf rfl ?_
    refine cf rfl ?_
    refine ct rfl ?_
    refine ct rfl ?_
    exact rt (congrArg Value.bool (by unfold sndG; simp [*]))
  have hvr := fun (w : World) => valid_ref s w
  rw [hv] at hvr
  refine ld1 1 rfl rfl ?_
  refine ct fr2 ?_
  refine ct fr2 ?_
  refine ld1 1 rfl rfl ?_
  refine ct fr2 ?_
  refine cv (fun w => hvr w) ?_
  refine ct fr2 ?_
  refine ct fr1 ?_
  refine ct rfl ?_
  refine ct rfl ?_
  refine ld1 1 rfl rfl ?_
  refine ct rfl ?_
  refine ct rfl ?_
  refine cf fs2 ?_
  refine cf fs2 ?_
  refine ct rfl ?_
  refine cf fs1 ?_
  refine cf rfl ?_
  refine cf rfl ?_
  have hspec : sndG S deep (.mk k i s l' p') = (l'.all S && prsK S [] p') := by unfold sndG; simp [*, prsK]
  have hdp : l' ≠ [] ∨ p' ≠ [] → d < 8 := fun h => by rcases h with h | h; exact absurd hl h; exact absurd hp h
  rotate_left
  have fa1 : decide (k < 0) = false := by rw [hk]; decide
  have fa2 : (decide (k < 0) == false) = true := by rw [fa1]; rfl
  have fb1 : decide (k > 5) = false := by rw [hk]; decide
  have fb2 : (decide (k > 5) == false) = true := by rw [fb1]; rfl
  have fc1 : (k != 4) = false := by rw [hk]; decide
  have fc2 : ((k != 4) == true) = false := by rw [fc1]; rfl
  have fe1 : (k != 5) = true := by rw [hk]; decide
  have fe2 : ((k != 5) == true) = true := by rw [fe1]; rfl
  have ff1 : (k != 3) = true := by rw [hk]; decide
  have ff2 : ((k != 3) == true) = true := by rw [ff1]; rfl
  have fg1 : (k == 1) = false := by rw [hk]; decide
  have fg2 : ((k == 1) == true) = false := by rw [fg1]; rfl
  have fj1 : (k == 2) = false := by rw [hk]; decide
  have fj2 : ((k == 2) == true) = false := by rw [fj1]; rfl
  have fn1 : (k != 1) = true := by rw [hk]; decide
  have fn2 : ((k != 1) == true) = true := by rw [fn1]; rfl
  have fo1 : (k != 2) = true := by rw [hk]; decide
  have fo2 : ((k != 2) == true) = true := by rw [fo1]; rfl
  have fr1 : (k == 3) = false := by rw [hk]; decide
  have fr2 : ((k == 3) == true) = false := by rw [fr1]; rfl
  have fs1 : decide (k ≥ 4) = true := by rw [hk]; decide
  have fs2 : (decide (k ≥ 4) == true) = true := by rw [fs1]; rfl
  by_cases hp : p' = []
  case neg =>
    have fq1 : decide ((p.length : Int) > 0) = true := decide_eq_true (by have := List.length_pos_iff.2 hp; omega)
    have fq2 : (decide ((p.length : Int) > 0) == false) = false := by rw [fq1]; rfl
    refine ld1 1 rfl rfl ?_
    refine ct fa2 ?_
    refine ct fa2 ?_
    refine ld1 1 rfl rfl ?_
    refine ct fa2 ?_
    refine cf fa1 ?_
    refine ct fb2 ?_
    refine ct fb2 ?_
    refine ld1 1 rfl rfl ?_
    refine ct fb2 ?_
    refine ct fb2 ?_
    refine cf fc2 ?_
    refine cf fc2 ?_
    refine cf fc2 ?_
    refine cf fc2 ?_
    refine ct fb2 ?_
    refine cf fc1 ?_
    refine cf fb1 ?_
    refine ct rfl ?_
    refine ct rfl ?_
    refine ld1 1 rfl rfl ?_
    refine ct rfl ?_
    refine ct rfl ?_
    refine ct fe2 ?_
    refine ct fe2 ?_
    refine ld1 1 rfl rfl ?_
    refine ct fe2 ?_
    refine ct fe2 ?_
    refine ct rfl ?_
    refine ct fe1 ?_
    refine cf rfl ?_
    refine cf fq2 ?_
    refine cf fq2 ?_
    refine cf fq2 ?_
    refine cf fq2 ?_
    refine cf fq2 ?_
    refine ct fq1 ?_
    refine ct rfl ?_
    exact rt (congrArg Value.bool (by unfold sndG; simp [*]))
  have fq1 : decide ((p.length : Int) > 0) = false := decide_eq_false (by rw [hlp, hp]; simp)
  have fq2 : (decide ((p.length : Int) > 0) == false) = true := by rw [fq1]; rfl
  by_cases hs : s = []
  case neg =>
    have fu1 : (!((ByteArray.mk s.toArray).toList == (ByteArray.mk #[]).toList)) = true := by rw [show (#[] : Array UInt8) = ([] : Bs).toArray from rfl, list_beq]; simp [hs]
    have fu2 : ((!((ByteArray.mk s.toArray).toList == (ByteArray.mk #[]).toList)) == false) = false := by rw [fu1]; rfl
    refine ld1 1 rfl rfl ?_
    refine ct fa2 ?_
    refine ct fa2 ?_
    refine ld1 1 rfl rfl ?_
    refine ct fa2 ?_
    refine cf fa1 ?_
    refine ct fb2 ?_
    refine ct fb2 ?_
    refine ld1 1 rfl rfl ?_
    refine ct fb2 ?_
    refine ct fb2 ?_
    refine cf fc2 ?_
    refine cf fc2 ?_
    refine cf fc2 ?_
    refine cf fc2 ?_
    refine ct fb2 ?_
    refine cf fc1 ?_
    refine cf fb1 ?_
    refine ct rfl ?_
    refine ct rfl ?_
    refine ld1 1 rfl rfl ?_
    refine ct rfl ?_
    refine ct rfl ?_
    refine ct fe2 ?_
    refine ct fe2 ?_
    refine ld1 1 rfl rfl ?_
    refine ct fe2 ?_
    refine ct fe2 ?_
    refine ct rfl ?_
    refine ct fe1 ?_
    refine cf rfl ?_
    refine ct fq2 ?_
    refine ct fq2 ?_
    refine ld1 1 rfl rfl ?_
    refine ct fq2 ?_
    refine ct fq2 ?_
    refine ct ff2 ?_
    refine ct ff2 ?_
    refine ld1 1 rfl rfl ?_
    refine ct ff2 ?_
    refine ct fq2 ?_
    refine ct ff1 ?_
    refine cf fq1 ?_
    refine ct fu1 ?_
    exact rt (congrArg Value.bool (by unfold sndG; simp [*]))
  have fu1 : (!((ByteArray.mk s.toArray).toList == (ByteArray.mk #[]).toList)) = false := by rw [show (#[] : Array UInt8) = ([] : Bs).toArray from rfl, list_beq]; simp [hs]
  have fu2 : ((!((ByteArray.mk s.toArray).toList == (ByteArray.mk #[]).toList)) == false) = true := by rw [fu1]; rfl
  refine ld1 1 rfl rfl ?_
  refine ct fa2 ?_
  refine ct fa2 ?_
  refine ld1 1 rfl rfl ?_
  refine ct fa2 ?_
  refine cf fa1 ?_
  refine ct fb2 ?_
  refine ct fb2 ?_
  refine ld1 1 rfl rfl ?_
  refine ct fb2 ?_
  refine ct fb2 ?_
  refine cf fc2 ?_
  refine cf fc2 ?_
  refine cf fc2 ?_
  refine cf fc2 ?_
  refine ct fb2 ?_
  refine cf fc1 ?_
  refine cf fb1 ?_
  refine ct rfl ?_
  refine ct rfl ?_
  refine ld1 1 rfl rfl ?_
  refine ct rfl ?_
  refine ct rfl ?_
  refine ct fe2 ?_
  refine ct fe2 ?_
  refine ld1 1 rfl rfl ?_
  refine ct fe2 ?_
  refine ct fe2 ?_
  refine ct rfl ?_
  refine ct fe1 ?_
  refine cf rfl ?_
  refine ct fq2 ?_
  refine ct fq2 ?_
  refine ld1 1 rfl rfl ?_
  refine ct fq2 ?_
  refine ct fq2 ?_
  refine ct ff2 ?_
  refine ct ff2 ?_
  refine ld1 1 rfl rfl ?_
  refine ct ff2 ?_
  refine ct fq2 ?_
  refine ct ff1 ?_
  refine cf fq1 ?_
  refine cf fu1 ?_
  by_cases hi : i = 0
  case neg =>
    have fp1 : (i != 0) = true := by simp [hi]
    have fp2 : ((i != 0) == false) = false := by rw [fp1]; rfl
    refine ld1 1 rfl rfl ?_
    refine cf fg2 ?_
    refine cf fg2 ?_
    refine cf fg2 ?_
    refine cf fg1 ?_
    refine cf rfl ?_
    refine cf rfl ?_
    refine cf rfl ?_
    refine cf rfl ?_
    refine ct rfl ?_
    refine ct rfl ?_
    refine ld1 1 rfl rfl ?_
    refine ct rfl ?_
    refine ct rfl ?_
    refine cf fj2 ?_
    refine cf fj2 ?_
    refine cf fj2 ?_
    refine cf fj2 ?_
    refine cf fj2 ?_
    refine ct rfl ?_
    refine cf fj1 ?_
    refine cf rfl ?_
    refine ct rfl ?_
    refine ct rfl ?_
    refine ld1 1 rfl rfl ?_
    refine ct rfl ?_
    refine ct rfl ?_
    refine ct fn2 ?_
    refine ct fn2 ?_
    refine ld1 1 rfl rfl ?_
    refine ct fn2 ?_
    refine ct rfl ?_
    refine ct fn1 ?_
    refine ct rfl ?_
    refine ct fo2 ?_
    refine ct fo2 ?_
    refine ld1 1 rfl rfl ?_
    refine ct fo2 ?_
    refine ct rfl ?_
    refine ct fo1 ?_
    refine cf rfl ?_
    refine ct fp1 ?_
    exact rt (congrArg Value.bool (by unfold sndG; simp [*]))
  have fp1 : (i != 0) = false := by simp [hi]
  have fp2 : ((i != 0) == false) = true := by rw [fp1]; rfl
  refine ld1 1 rfl rfl ?_
  refine cf fg2 ?_
  refine cf fg2 ?_
  refine cf fg2 ?_
  refine cf fg1 ?_
  refine cf rfl ?_
  refine cf rfl ?_
  refine cf rfl ?_
  refine cf rfl ?_
  refine ct rfl ?_
  refine ct rfl ?_
  refine ld1 1 rfl rfl ?_
  refine ct rfl ?_
  refine ct rfl ?_
  refine cf fj2 ?_
  refine cf fj2 ?_
  refine cf fj2 ?_
  refine cf fj2 ?_
  refine cf fj2 ?_
  refine ct rfl ?_
  refine cf fj1 ?_
  refine cf rfl ?_
  refine ct rfl ?_
  refine ct rfl ?_
  refine ld1 1 rfl rfl ?_
  refine ct rfl ?_
  refine ct rfl ?_
  refine ct fn2 ?_
  refine ct fn2 ?_
  refine ld1 1 rfl rfl ?_
  refine ct fn2 ?_
  refine ct rfl ?_
  refine ct fn1 ?_
  refine ct rfl ?_
  refine ct fo2 ?_
  refine ct fo2 ?_
  refine ld1 1 rfl rfl ?_
  refine ct fo2 ?_
  refine ct rfl ?_
  refine ct fo1 ?_
  refine cf rfl ?_
  refine cf fp1 ?_
  by_cases hdd : d < 8
  case neg =>
    have ft1 : decide ((d : Int) ≥ 8) = true := decide_eq_true (by omega)
    have ft2 : (decide ((d : Int) ≥ 8) == false) = false := by rw [ft1]; rfl
    refine ld1 1 rfl rfl ?_
    refine cf fr2 ?_
    refine cf fr2 ?_
    refine cf fr2 ?_
    refine cf fr2 ?_
    refine cf fr1 ?_
    refine ct rfl ?_
    refine ct rfl ?_
    refine ld1 1 rfl rfl ?_
    refine ct rfl ?_
    refine ct rfl ?_
    refine ct fs2 ?_
    refine ct fs2 ?_
    refine ct rfl ?_
    refine ct fs1 ?_
    refine cf rfl ?_
    refine ct ft1 ?_
    have hdf : deep = false := by rw [hd8]; exact decide_eq_false hdd
    exact rt (congrArg Value.bool (by unfold sndG; simp [*]))
  have ft1 : decide ((d : Int) ≥ 8) = false := decide_eq_false (by omega)
  have ft2 : (decide ((d : Int) ≥ 8) == false) = true := by rw [ft1]; rfl
  have hdt : deep = true := by rw [hd8]; exact decide_eq_true hdd
  refine ld1 1 rfl rfl ?_
  refine cf fr2 ?_
  refine cf fr2 ?_
  refine cf fr2 ?_
  refine cf fr2 ?_
  refine cf fr1 ?_
  refine ct rfl ?_
  refine ct rfl ?_
  refine ld1 1 rfl rfl ?_
  refine ct rfl ?_
  refine ct rfl ?_
  refine ct fs2 ?_
  refine ct fs2 ?_
  refine ct rfl ?_
  refine ct fs1 ?_
  refine cf rfl ?_
  refine cf ft1 ?_
  have hspec : sndG S deep (.mk k i s l' p') = (l'.all S && prsK S [] p') := by unfold sndG; simp [*, prsK]
  have hdp : l' ≠ [] ∨ p' ≠ [] → d < 8 := fun _ => hdd
  rotate_left
  have fa1 : decide (k < 0) = false := by rw [hk]; decide
  have fa2 : (decide (k < 0) == false) = true := by rw [fa1]; rfl
  have fb1 : decide (k > 5) = false := by rw [hk]; decide
  have fb2 : (decide (k > 5) == false) = true := by rw [fb1]; rfl
  have fc1 : (k != 4) = true := by rw [hk]; decide
  have fc2 : ((k != 4) == true) = true := by rw [fc1]; rfl
  have fe1 : (k != 5) = false := by rw [hk]; decide
  have fe2 : ((k != 5) == true) = false := by rw [fe1]; rfl
  have ff1 : (k != 3) = true := by rw [hk]; decide
  have ff2 : ((k != 3) == true) = true := by rw [ff1]; rfl
  have fg1 : (k == 1) = false := by rw [hk]; decide
  have fg2 : ((k == 1) == true) = false := by rw [fg1]; rfl
  have fj1 : (k == 2) = false := by rw [hk]; decide
  have fj2 : ((k == 2) == true) = false := by rw [fj1]; rfl
  have fn1 : (k != 1) = true := by rw [hk]; decide
  have fn2 : ((k != 1) == true) = true := by rw [fn1]; rfl
  have fo1 : (k != 2) = true := by rw [hk]; decide
  have fo2 : ((k != 2) == true) = true := by rw [fo1]; rfl
  have fr1 : (k == 3) = false := by rw [hk]; decide
  have fr2 : ((k == 3) == true) = false := by rw [fr1]; rfl
  have fs1 : decide (k ≥ 4) = true := by rw [hk]; decide
  have fs2 : (decide (k ≥ 4) == true) = true := by rw [fs1]; rfl
  by_cases hl : l' = []
  case neg =>
    have fl1 : decide ((l.length : Int) > 0) = true := decide_eq_true (by have := List.length_pos_iff.2 hl; omega)
    have fl2 : (decide ((l.length : Int) > 0) == false) = false := by rw [fl1]; rfl
    refine ld1 1 rfl rfl ?_
    refine ct fa2 ?_
    refine ct fa2 ?_
    refine ld1 1 rfl rfl ?_
    refine ct fa2 ?_
    refine cf fa1 ?_
    refine ct fb2 ?_
    refine ct fb2 ?_
    refine ld1 1 rfl rfl ?_
    refine ct fb2 ?_
    refine ct fb2 ?_
    refine ct fc2 ?_
    refine ct fc2 ?_
    refine ld1 1 rfl rfl ?_
    refine ct fc2 ?_
    refine ct fc2 ?_
    refine ct fb2 ?_
    refine ct fc1 ?_
    refine cf fb1 ?_
    refine cf fl2 ?_
    refine cf fl2 ?_
    refine cf fl2 ?_
    refine cf fl2 ?_
    refine cf fl2 ?_
    refine ct fl1 ?_
    refine cf rfl ?_
    refine cf rfl ?_
    refine cf rfl ?_
    refine cf rfl ?_
    refine cf rfl ?_
    refine ct rfl ?_
    refine ct rfl ?_
    exact rt (congrArg Value.bool (by unfold sndG; simp [*]))
  have fl1 : decide ((l.length : Int) > 0) = false := decide_eq_false (by rw [hll, hl]; simp)
  have fl2 : (decide ((l.length : Int) > 0) == false) = true := by rw [fl1]; rfl
  by_cases hs : s = []
  case neg =>
    have fu1 : (!((ByteArray.mk s.toArray).toList == (ByteArray.mk #[]).toList)) = true := by rw [show (#[] : Array UInt8) = ([] : Bs).toArray from rfl, list_beq]; simp [hs]
    have fu2 : ((!((ByteArray.mk s.toArray).toList == (ByteArray.mk #[]).toList)) == false) = false := by rw [fu1]; rfl
    refine ld1 1 rfl rfl ?_
    refine ct fa2 ?_
    refine ct fa2 ?_
    refine ld1 1 rfl rfl ?_
    refine ct fa2 ?_
    refine cf fa1 ?_
    refine ct fb2 ?_
    refine ct fb2 ?_
    refine ld1 1 rfl rfl ?_
    refine ct fb2 ?_
    refine ct fb2 ?_
    refine ct fc2 ?_
    refine ct fc2 ?_
    refine ld1 1 rfl rfl ?_
    refine ct fc2 ?_
    refine ct fc2 ?_
    refine ct fb2 ?_
    refine ct fc1 ?_
    refine cf fb1 ?_
    refine ct fl2 ?_
    refine ct fl2 ?_
    refine ld1 1 rfl rfl ?_
    refine ct fl2 ?_
    refine ct fl2 ?_
    refine cf fe2 ?_
    refine cf fe2 ?_
    refine cf fe2 ?_
    refine cf fe2 ?_
    refine ct fl2 ?_
    refine cf fe1 ?_
    refine cf fl1 ?_
    refine ct rfl ?_
    refine ct rfl ?_
    refine ld1 1 rfl rfl ?_
    refine ct rfl ?_
    refine ct rfl ?_
    refine ct ff2 ?_
    refine ct ff2 ?_
    refine ld1 1 rfl rfl ?_
    refine ct ff2 ?_
    refine ct rfl ?_
    refine ct ff1 ?_
    refine cf rfl ?_
    refine ct fu1 ?_
    exact rt (congrArg Value.bool (by unfold sndG; simp [*]))
  have fu1 : (!((ByteArray.mk s.toArray).toList == (ByteArray.mk #[]).toList)) = false := by rw [show (#[] : Array UInt8) = ([] : Bs).toArray from rfl, list_beq]; simp [hs]
  have fu2 : ((!((ByteArray.mk s.toArray).toList == (ByteArray.mk #[]).toList)) == false) = true := by rw [fu1]; rfl
  refine ld1 1 rfl rfl ?_
  refine ct fa2 ?_
  refine ct fa2 ?_
  refine ld1 1 rfl rfl ?_
  refine ct fa2 ?_
  refine cf fa1 ?_
  refine ct fb2 ?_
  refine ct fb2 ?_
  refine ld1 1 rfl rfl ?_
  refine ct fb2 ?_
  refine ct fb2 ?_
  refine ct fc2 ?_
  refine ct fc2 ?_
  refine ld1 1 rfl rfl ?_
  refine ct fc2 ?_
  refine ct fc2 ?_
  refine ct fb2 ?_
  refine ct fc1 ?_
  refine cf fb1 ?_
  refine ct fl2 ?_
  refine ct fl2 ?_
  refine ld1 1 rfl rfl ?_
  refine ct fl2 ?_
  refine ct fl2 ?_
  refine cf fe2 ?_
  refine cf fe2 ?_
  refine cf fe2 ?_
  refine cf fe2 ?_
  refine ct fl2 ?_
  refine cf fe1 ?_
  refine cf fl1 ?_
  refine ct rfl ?_
  refine ct rfl ?_
  refine ld1 1 rfl rfl ?_
  refine ct rfl ?_
  refine ct rfl ?_
  refine ct ff2 ?_
  refine ct ff2 ?_
  refine ld1 1 rfl rfl ?_
  refine ct ff2 ?_
  refine ct rfl ?_
  refine ct ff1 ?_
  refine cf rfl ?_
  refine cf fu1 ?_
  by_cases hi : i = 0
  case neg =>
    have fp1 : (i != 0) = true := by simp [hi]
    have fp2 : ((i != 0) == false) = false := by rw [fp1]; rfl
    refine ld1 1 rfl rfl ?_
    refine cf fg2 ?_
    refine cf fg2 ?_
    refine cf fg2 ?_
    refine cf fg1 ?_
    refine cf rfl ?_
    refine cf rfl ?_
    refine cf rfl ?_
    refine cf rfl ?_
    refine ct rfl ?_
    refine ct rfl ?_
    refine ld1 1 rfl rfl ?_
    refine ct rfl ?_
    refine ct rfl ?_
    refine cf fj2 ?_
    refine cf fj2 ?_
    refine cf fj2 ?_
    refine cf fj2 ?_
    refine cf fj2 ?_
    refine ct rfl ?_
    refine cf fj1 ?_
    refine cf rfl ?_
    refine ct rfl ?_
    refine ct rfl ?_
    refine ld1 1 rfl rfl ?_
    refine ct rfl ?_
    refine ct rfl ?_
    refine ct fn2 ?_
    refine ct fn2 ?_
    refine ld1 1 rfl rfl ?_
    refine ct fn2 ?_
    refine ct rfl ?_
    refine ct fn1 ?_
    refine ct rfl ?_
    refine ct fo2 ?_
    refine ct fo2 ?_
    refine ld1 1 rfl rfl ?_
    refine ct fo2 ?_
    refine ct rfl ?_
    refine ct fo1 ?_
    refine cf rfl ?_
    refine ct fp1 ?_
    exact rt (congrArg Value.bool (by unfold sndG; simp [*]))
  have fp1 : (i != 0) = false := by simp [hi]
  have fp2 : ((i != 0) == false) = true := by rw [fp1]; rfl
  refine ld1 1 rfl rfl ?_
  refine cf fg2 ?_
  refine cf fg2 ?_
  refine cf fg2 ?_
  refine cf fg1 ?_
  refine cf rfl ?_
  refine cf rfl ?_
  refine cf rfl ?_
  refine cf rfl ?_
  refine ct rfl ?_
  refine ct rfl ?_
  refine ld1 1 rfl rfl ?_
  refine ct rfl ?_
  refine ct rfl ?_
  refine cf fj2 ?_
  refine cf fj2 ?_
  refine cf fj2 ?_
  refine cf fj2 ?_
  refine cf fj2 ?_
  refine ct rfl ?_
  refine cf fj1 ?_
  refine cf rfl ?_
  refine ct rfl ?_
  refine ct rfl ?_
  refine ld1 1 rfl rfl ?_
  refine ct rfl ?_
  refine ct rfl ?_
  refine ct fn2 ?_
  refine ct fn2 ?_
  refine ld1 1 rfl rfl ?_
  refine ct fn2 ?_
  refine ct rfl ?_
  refine ct fn1 ?_
  refine ct rfl ?_
  refine ct fo2 ?_
  refine ct fo2 ?_
  refine ld1 1 rfl rfl ?_
  refine ct fo2 ?_
  refine ct rfl ?_
  refine ct fo1 ?_
  refine cf rfl ?_
  refine cf fp1 ?_
  by_cases hdd : d < 8
  case neg =>
    have ft1 : decide ((d : Int) ≥ 8) = true := decide_eq_true (by omega)
    have ft2 : (decide ((d : Int) ≥ 8) == false) = false := by rw [ft1]; rfl
    refine ld1 1 rfl rfl ?_
    refine cf fr2 ?_
    refine cf fr2 ?_
    refine cf fr2 ?_
    refine cf fr2 ?_
    refine cf fr1 ?_
    refine ct rfl ?_
    refine ct rfl ?_
    refine ld1 1 rfl rfl ?_
    refine ct rfl ?_
    refine ct rfl ?_
    refine ct fs2 ?_
    refine ct fs2 ?_
    refine ct rfl ?_
    refine ct fs1 ?_
    refine cf rfl ?_
    refine ct ft1 ?_
    have hdf : deep = false := by rw [hd8]; exact decide_eq_false hdd
    exact rt (congrArg Value.bool (by unfold sndG; simp [*]))
  have ft1 : decide ((d : Int) ≥ 8) = false := decide_eq_false (by omega)
  have ft2 : (decide ((d : Int) ≥ 8) == false) = true := by rw [ft1]; rfl
  have hdt : deep = true := by rw [hd8]; exact decide_eq_true hdd
  refine ld1 1 rfl rfl ?_
  refine cf fr2 ?_
  refine cf fr2 ?_
  refine cf fr2 ?_
  refine cf fr2 ?_
  refine cf fr1 ?_
  refine ct rfl ?_
  refine ct rfl ?_
  refine ld1 1 rfl rfl ?_
  refine ct rfl ?_
  refine ct rfl ?_
  refine ct fs2 ?_
  refine ct fs2 ?_
  refine ct rfl ?_
  refine ct fs1 ?_
  refine cf rfl ?_
  refine cf ft1 ?_
  have hspec : sndG S deep (.mk k i s l' p') = (l'.all S && prsK S [] p') := by unfold sndG; simp [*]
  have hdp : l' ≠ [] ∨ p' ≠ [] → d < 8 := fun _ => hdd
  rotate_left
  all_goals
    rw [hspec]
    refine lp tab_ok (fun q : Nat => q ≤ l.length ∧ (l'.take q).all S = true) (fun q => ⟨[(1, .int .i64 (d : Int)), (2, pj b2), (5, .int .i64 (q : Nat))], [rs (rdT A (.mk k i s (.slice a l.length cap) (.slice a' p.length cap') l p) (.mk k i s l' p')), cl b2 (vcl k i s (.slice a l.length cap) (.slice a' p.length cap')).toArray TV], []⟩) (fun q => l.length - q) 0 ⟨Nat.zero_le _, rfl⟩ ⟨⟨rfl, rfl, rfl, trivial⟩, .cons (.cons .nil), rfl⟩ ?_
    rintro q ⟨hq, hall⟩
    refine ld1 1 rfl rfl ?_
    refine cd (fun hql => ?_) (fun hql => ?_)
    · have hql : q < l.length := by omega
      have hc0 : l[q]? = some l[q] := List.getElem?_eq_getElem hql
      have hj0 : l'[q]? = some (l'[q]'(by omega)) := List.getElem?_eq_getElem (by omega)
      have hd7 : d < 8 := hdp (.inl fun e => by have h1 := congrArg List.length e; simp only [List.length_nil] at h1; omega)
      generalize l[q] = c0 at hc0
      generalize l'[q]'(by omega) = j0 at hj0
      obtain ⟨b, o, rfl⟩ := k2 (by omega)
      have hld : ∀ w, HeldT w A (.mk k i s (.slice (some ⟨b, o, none⟩) l.length cap) (.slice a' p.length cap') l p) (.mk k i s l' p') → w.rangeAt b (nad o (nmu ((q : Nat) : Int).toNat 5)) c0.cs.toArray.toList := fun w h => by
        rw [nad_eq, nmu_eq, Int.toNat_natCast]; exact h.2.item rfl hc0
      refine ld1 1 rfl rfl ?_
      refine ⟨by omega, by omega, ?_⟩
      refine .mk c0.cs.toArray (by rw [List.size_toArray, CT.cs5]) (fun w hs => hld w (hs.res (k := 0) rfl)) ?_
      refine .as ((d + 1 : Nat) : Int) (by omega) (by simp only [mn]; omega) (by simp only [mx]; omega) ?_
      have hcall := fun (w : World) (h : HeldT w A (.mk k i s (.slice (some ⟨b, o, none⟩) l.length cap) (.slice a' p.length cap') l p) (.mk k i s l' p')) => hS hd7 c0 j0 A w ⟨h.1, h.2.kid hc0 hj0⟩
      cases hSj : S j0 with
      | true =>
        rw [hSj] at hcall
        refine cvs (fun w hs => hcall w (hs.res (k := 0) rfl)) ?_
        refine cf rfl ?_
        refine .as ((q + 1 : Nat) : Int) (by simp) (by simp only [mn]; omega) (by simp only [mx]; unfold maxLen at k1; omega) ?_
        exact ⟨q + 1, ⟨by omega, by rw [List.take_add_one, hj0, List.all_append, hall]; simp [hSj]⟩, by omega, ⟨⟨rfl, rfl, rfl, trivial⟩, .cons (.cons .nil), rfl⟩⟩
      | false =>
        rw [hSj] at hcall
        refine cvs (fun w hs => hcall w (hs.res (k := 0) rfl)) ?_
        refine ct rfl ?_
        have hno : l'.all S = false := by
          rw [List.all_eq_false]
          exact ⟨j0, List.mem_of_getElem? hj0, by rw [hSj]; simp⟩
        exact rt (congrArg Value.bool (by rw [hno]; rfl))
    have hqe : q = l'.length := by omega
    rw [hqe, List.take_length] at hall
    rw [hall, Bool.true_and]
    clear hq hql hall hqe
    refine lp tab_ok (fun x : Nat => x ≤ p.length ∧ prsK S [] p' = prsK S ((p'.take x).map (·.1)).reverse (p'.drop x)) (fun x => ⟨[(1, .int .i64 (d : Int)), (2, pj b2), (6, .int .i64 (x : Nat))], [rs (rdT A (.mk k i s (.slice a l.length cap) (.slice a' p.length cap') l p) (.mk k i s l' p')), cl b2 (vcl k i s (.slice a l.length cap) (.slice a' p.length cap')).toArray TV], []⟩) (fun x => p.length - x) 0 ⟨Nat.zero_le _, rfl⟩ ⟨⟨rfl, rfl, rfl, trivial⟩, .cons (.cons .nil), rfl⟩ ?_
    rintro q ⟨hq, hall⟩
    refine ld1 1 rfl rfl ?_
    refine cd (fun hql => ?_) (fun hql => ?_)
    · have hql : q < p.length := by omega
      have hc0 : p[q]? = some p[q] := List.getElem?_eq_getElem hql
      have hj0 : p'[q]? = some (p'[q]'(by omega)) := List.getElem?_eq_getElem (by omega)
      have hdr : p'.drop q = p'[q]'(by omega) :: p'.drop (q + 1) := List.drop_eq_getElem_cons (by omega)
      have hd7 : d < 8 := hdp (.inr fun e => by have h1 := congrArg List.length e; simp only [List.length_nil] at h1; omega)
      generalize p[q] = c0 at hc0
      generalize p'[q]'(by omega) = j0 at hj0 hdr
      have hnm := kn q c0 j0 hc0 hj0
      obtain ⟨b, o, rfl⟩ := k4 (by omega)
      obtain ⟨name, c1⟩ := c0
      obtain ⟨nj, j1⟩ := j0
      obtain rfl : name = nj := hnm
      rw [hdr] at hall
      have hall2 : prsK S [] p' = (!decide (name ∈ ((p'.take q).map (·.1)).reverse) && validP name && S j1 && prsK S (name :: ((p'.take q).map (·.1)).reverse) (p'.drop (q + 1))) := hall
      have hld0 : ∀ w, HeldT w A (.mk k i s (.slice a l.length cap) (.slice (some ⟨b, o, none⟩) p.length cap') l p) (.mk k i s l' p') → ∀ (m : Nat) (c : Bs × CT), p[m]? = some c → w.cell? ⟨b, nad (nad o (nmu ((m : Nat) : Int).toNat 6)) 0, none⟩ = some (sj c.1) := fun w h m c hc => by
        have := h.2.pair rfl hc
        rw [nad_eq, nad_eq, nmu_eq, Int.toNat_natCast]; exact this 0 _ rfl
      have hld : ∀ w, HeldT w A (.mk k i s (.slice a l.length cap) (.slice (some ⟨b, o, none⟩) p.length cap') l p) (.mk k i s l' p') → w.rangeAt b (nad (nad o (nmu ((q : Nat) : Int).toNat 6)) 1) c1.cs.toArray.toList := fun w h => by
        have := h.2.pair rfl hc0
        rw [nad_eq, nad_eq, nmu_eq, Int.toNat_natCast]
        intro y u hu
        rw [Nat.add_assoc (o + q * 6), Nat.add_comm 1 y]
        exact this (y + 1) u (by simpa using hu)
      refine lp tab_ok (fun x : Nat => x ≤ q ∧ name ∉ (p'.take x).map (·.1)) (fun x => ⟨[(1, .int .i64 (d : Int)), (2, pj b2), (6, .int .i64 (q : Nat)), (7, .int .i64 (x : Nat))], [rs (rdT A (.mk k i s (.slice a l.length cap) (.slice (some ⟨b, o, none⟩) p.length cap') l p) (.mk k i s l' p')), cl b2 (vcl k i s (.slice a l.length cap) (.slice (some ⟨b, o, none⟩) p.length cap')).toArray TV], []⟩) (fun x => q - x) 0 ⟨Nat.zero_le _, by simp⟩ ⟨⟨rfl, rfl, rfl, rfl, trivial⟩, .cons (.cons .nil), rfl⟩ ?_
      rintro m ⟨hm, hnot⟩
      refine cd (fun hmq => ?_) (fun hmq => ?_)
      · have hmq : m < q := by omega
        have hcm : p[m]? = some p[m] := List.getElem?_eq_getElem (by omega)
        have hjm : p'[m]? = some (p'[m]'(by omega)) := List.getElem?_eq_getElem (by omega)
        generalize p[m] = cm at hcm
        generalize p'[m]'(by omega) = jm at hjm
        have hnm2 := kn m cm jm hcm hjm
        refine dr [rs (rdT A (.mk k i s (.slice a l.length cap) (.slice (some ⟨b, o, none⟩) p.length cap') l p) (.mk k i s l' p')), cl b2 (vcl k i s (.slice a l.length cap) (.slice (some ⟨b, o, none⟩) p.length cap')).toArray TV] 99 (.t 0 (.t 1 (.t 2 (.t 3 (.t 4 (.t 5 (.t 6 (.t 7 (.t 8 (.t 9 (.t 10 (.t 11 (.t 12 .nil))))))))))))) tab_ok mixed_ok (by kernel_rfl) (.cons (.cons .nil)) ?_
        refine ld1 1 rfl rfl ?_
        refine ⟨by omega, by omega, ?_⟩
        refine .mk (sj cm.1) (fun w hs => hld0 w (hs.res (k := 0) rfl) m cm hcm) ?_
        refine ld1 1 rfl rfl ?_
        refine ⟨by omega, by omega, ?_⟩
        refine .mk (sj name) (fun w hs => hld0 w (hs.res (k := 0) rfl) q _ hc0) ?_
        by_cases he : cm.1 = name
        · refine ct (by rw [list_beq]; exact decide_eq_true he) ?_
          have hin : name ∈ ((p'.take q).map (·.1)).reverse := by
            rw [List.mem_reverse, List.mem_map]
            exact ⟨jm, List.mem_of_getElem? (i := m) (by rw [List.getElem?_take_of_lt hmq]; exact hjm), by rw [← hnm2, he]⟩
          exact rt (congrArg Value.bool (by rw [hall2, decide_eq_true hin]; rfl))
        · refine cf (by rw [list_beq]; exact decide_eq_false he) ?_
          refine .as ((m + 1 : Nat) : Int) (by simp) (by simp only [mn]; omega) (by simp only [mx]; unfold maxLen at k3; omega) ?_
          exact ⟨m + 1, ⟨by omega, by
            rw [List.take_add_one, hjm, List.map_append, List.mem_append]
            rintro (h | h)
            · exact hnot h
            · simp at h; exact he (by rw [hnm2, ← h])⟩, by omega, ⟨⟨rfl, rfl, rfl, rfl, trivial⟩, .cons (.cons .nil), rfl⟩⟩
      have hme : m = q := by omega
      subst hme
      have hnin : decide (name ∈ ((p'.take m).map (·.1)).reverse) = false := decide_eq_false (by rw [List.mem_reverse]; exact hnot)
      rw [hnin] at hall2
      have hva := fun (w : World) => valid_ref name w
      have hcall := fun (w : World) (h : HeldT w A (.mk k i s (.slice a l.length cap) (.slice (some ⟨b, o, none⟩) p.length cap') l p) (.mk k i s l' p')) => hS hd7 c1 j1 A w ⟨h.1, h.2.kidp hc0 hj0⟩
      refine ld1 1 rfl rfl ?_
      refine ⟨by omega, by omega, ?_⟩
      refine .mk (sj name) (fun w hs => hld0 w (hs.res (k := 0) rfl) m _ hc0) ?_
      cases hvn : validP name with
      | false =>
        rw [hvn] at hva hall2
        refine cv (fun w => hva w) ?_
        iterate 10 refine cf rfl ?_
        refine ct rfl ?_
        refine ct rfl ?_
        exact rt (congrArg Value.bool (by rw [hall2]; rfl))
      | true =>
        rw [hvn] at hva hall2
        refine cv (fun w => hva w) ?_
        iterate 2 refine ct rfl ?_
        refine ld1 1 rfl rfl ?_
        iterate 2 refine ct rfl ?_
        refine ⟨by omega, by omega, ?_⟩
        iterate 2 refine ct rfl ?_
        refine .mk c1.cs.toArray (by rw [List.size_toArray, CT.cs5]) (fun w hs => hld w (hs.res (k := 0) rfl)) ?_
        iterate 2 refine ct rfl ?_
        refine .as ((d + 1 : Nat) : Int) (by omega) (by simp only [mn]; omega) (by simp only [mx]; omega) ?_
        refine ct rfl ?_
        cases hSj : S j1 with
        | false =>
          rw [hSj] at hcall hall2
          refine cvs (fun w hs => hcall w (hs.res (k := 0) rfl)) ?_
          refine ct rfl ?_
          refine cf rfl ?_
          refine ct rfl ?_
          exact rt (congrArg Value.bool (by rw [hall2]; rfl))
        | true =>
          rw [hSj] at hcall hall2
          refine cvs (fun w hs => hcall w (hs.res (k := 0) rfl)) ?_
          refine ct rfl ?_
          refine cf rfl ?_
          refine cf rfl ?_
          refine .as ((m + 1 : Nat) : Int) (by simp) (by simp only [mn]; omega) (by simp only [mx]; unfold maxLen at k3; omega) ?_
          exact ⟨m + 1, ⟨by omega, by rw [hall2, List.take_add_one, hj0]; simp⟩, by omega, ⟨⟨rfl, rfl, rfl, trivial⟩, .cons (.cons .nil), rfl⟩⟩
    have hqe : q = p'.length := by omega
    rw [hqe, List.drop_length] at hall
    exact rt (congrArg Value.bool (by rw [hall]; rfl))
end Go.Proofs.YtpegkoklmhccjaaDoor
end
