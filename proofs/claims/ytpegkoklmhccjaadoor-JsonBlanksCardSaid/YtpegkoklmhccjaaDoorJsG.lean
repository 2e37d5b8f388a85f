/- Chapter 12: signs in UTF-8: the walk. -/
import Derived.Test.YtpegkoklmhccjaaDoorJsF
namespace Go.Proofs.YtpegkoklmhccjaaDoor
open Go.RowKit Go.Sx
set_option linter.unusedVariables false
def decR (o : Option (Nat × Nat)) : Value := match o with
  | none => .tuple #[.int .i32 65533, .int .i64 1]
  | some (c, z) => .tuple #[.int .i32 (c : Nat), .int .i64 (z : Nat)]
theorem shrP {k : IntKind} {x : Nat} {y : Int} (n : Nat) (hy : y = n) (hn : n ≤ k.bits) {next : Value → Prop} (go : next (.int k ((x / 2 ^ n : Nat) : Int))) : ShP y (next (.int k ((x : Int).fdiv (2 ^ (min y.toNat k.bits))))) := by
  subst hy
  refine ⟨by omega, ?_⟩
  have e : ((x : Nat) : Int).fdiv (2 ^ (min ((n : Nat) : Int).toNat k.bits)) = ((x / 2 ^ n : Nat) : Int) := by
    rw [Int.toNat_natCast, Nat.min_eq_left hn, Int.fdiv_eq_ediv_of_nonneg _ (by exact Int.le_of_lt (Int.pow_pos (by decide)))]
    norm_cast
  rw [e]; exact go
theorem shlP {k : IntKind} {x : Nat} {y : Int} (n m : Nat) (hy : y = n) (hn : n ≤ k.bits) (hm : x * 2 ^ n = m) (hx : (m : Int) ≤ mx k) {next : Value → Prop} (go : next (.int k (m : Int))) : ShP y (Wr k ((x : Int) * 2 ^ (min y.toNat k.bits)) next) := by
  subst hy
  refine ⟨by omega, .as (m : Int) ?_ (by cases k <;> simp only [mn] <;> omega) hx go⟩
  rw [Int.toNat_natCast, Nat.min_eq_left hn, ← hm]
  norm_cast
theorem and_m (b n : Nat) : b &&& (2 ^ n - 1) = b % 2 ^ n := Nat.and_two_pow_sub_one_eq_mod b n
theorem notM1 (n : Nat) (h : n < 256) : bitI .andNot .i32 (n : Int) (-1) = 0 := by
  have : (List.range 256).all (fun n => bitI .andNot .i32 ((n : Nat) : Int) (-1) == 0) = true := by decide +kernel
  simpa using List.all_eq_true.1 this n (by simpa using h)
theorem decQ_short (a : Nat) (r : Bs) (z lo hi : Nat) (hc : clsP a = some (z, lo, hi)) (hz : z = 2 ∨ z = 3 ∨ z = 4) (h : r.length + 1 < z) : decQ a r = none := by
  unfold decQ
  rw [hc]
  dsimp only
  rcases r with _ | ⟨b1, _ | ⟨b2, _ | ⟨b3, r⟩⟩⟩
  · rfl
  · dsimp only
    split
    · rfl
    · rw [if_neg (by simp at h; omega)]
  · dsimp only
    split
    · rfl
    · rw [if_neg (by simp at h; omega)]
      split
      · rfl
      · rw [if_neg (by simp at h; omega)]
  · simp at h; omega
set_option maxRecDepth 100000 in
set_option maxHeartbeats 4000000 in
theorem slow_any (a : UInt8) (r : Bs) (h128 : 128 ≤ a.toNat) (hl : (a :: r).length ≤ 100000) (w : World) (hw : Laid w) : Calls Tryd.prog 75 ([sj (a :: r)] : List Value).toArray w fun e w' => e = .returned (decR (decQ a.toNat r)) ∧ Below w.heap.size w w' := by
  have ha := a.toNat_lt
  refine enterV tab_ok Tryd.func75 rfl Tryd.ntmps75 rfl (St.laid hw) ?_
  refine cf (decide_eq_false (by rw [str_size]; simp; omega)) ?_
  refine chL 0 rfl rfl ?_
  refine ⟨by omega, by omega, ?_⟩
  refine .mk (.int .u8 (fstN a.toNat : Nat)) (fun w hs => ?_) ?_
  · have hp : Laid w := hs.res (k := 0) rfl
    rw [nad_eq, nmu_eq, Nat.zero_add, Nat.mul_one, Int.toNat_natCast]
    exact hp.f a.toNat (by omega)
  rcases cls_tab a.toNat h128 (by omega) with ⟨hf, hc⟩ | ⟨z, lo, hi, hc, hz, hx, h7, h16, hlo, hhi⟩
  · have hq : decQ a.toNat r = none := by unfold decQ; rw [hc]
    rw [hq, hf]
    refine ct rfl ?_
    refine .same (by decide) (by decide) ?_
    refine ⟨by decide, .to (-2147483648) (by decide) ?_⟩
    refine ⟨by decide, ?_⟩
    refine chL 0 rfl rfl ?_
    refine .same (by simp only [mn]; omega) (by simp only [mx]; omega) ?_
    refine rt ?_
    show Value.tuple #[.int .i32 (bitI .or .i32 (bitI .andNot .i32 (a.toNat : Int) (-1)) (bitI .and .i32 65533 (-1))), .int .i64 1] = _
    rw [notM1 a.toNat (by omega)]
    rfl
  · generalize hxx : fstN a.toNat = x at hx h7 h16 hlo hhi ⊢
    refine cf (decide_eq_false (by omega)) ?_
    refine .as (z : Int) (by rw [show bitI .and .u8 (x : Int) 7 = ((x &&& 7 : Nat) : Int) from andB x 7 (by omega) (by decide), h7]) (by simp only [mn]; omega) (by simp only [mx]; omega) ?_
    have e4 : ((x : Nat) : Int).fdiv (2 ^ (min (4 : Int).toNat IntKind.u8.bits)) = ((x / 16 : Nat) : Int) := by
      rw [show min (4 : Int).toNat IntKind.u8.bits = 4 from rfl, Int.fdiv_eq_ediv_of_nonneg _ (by decide)]
      norm_cast
    refine ⟨by decide, ?_⟩
    refine ⟨by rw [e4]; omega, by rw [e4]; omega, ?_⟩
    refine .mk #[.int .u8 (lo : Nat), .int .u8 (hi : Nat)] rfl (fun w hs => ?_) ?_
    · have hp : Laid w := hs.res (k := 0) rfl
      rw [nad_eq, nmu_eq, Nat.zero_add, e4, Int.toNat_natCast]
      have g0 := hp.a (x / 16 * 2) (by omega)
      have g1 := hp.a (x / 16 * 2 + 1) (by omega)
      rw [hlo] at g0
      rw [hhi] at g1
      intro j v hv
      match j, hv with
      | 0, hv => injection hv with hv; rw [← hv]; exact g0
      | 1, hv => injection hv with hv; rw [← hv]; exact g1
    intro b9
    refine sN 1 rfl rfl (by kernel_rfl) ?_ (by kernel_rfl)
    by_cases hs : r.length + 1 < z
    · refine ct (decide_eq_true (by rw [str_size]; simp; omega)) ?_
      rw [decQ_short a.toNat r z lo hi hc hz hs]
      exact rt rfl
    refine cf (decide_eq_false (by rw [str_size]; simp; omega)) ?_
    obtain ⟨b1, r1, rfl⟩ : ∃ b t, r = b :: t := by
      cases r with
      | nil => simp at hs; omega
      | cons b t => exact ⟨b, t, rfl⟩
    have hb1 := b1.toNat_lt
    have hn : ¬ r1.length + 2 < z := by simpa using hs
    rcases hz with rfl | rfl | rfl
    · refine chL 1 rfl rfl ?_
      refine ld1 1 rfl rfl ?_
      by_cases l1 : b1.toNat < lo
      · have f1 : decide ((b1.toNat : Int) < (lo : Int)) = true := decide_eq_true (by omega)
        have f2 : (decide ((b1.toNat : Int) < (lo : Int)) == false) = false := by rw [f1]; rfl
        iterate 4 refine cf f2 ?_
        refine ct f1 ?_
        refine ct rfl ?_
        have hq : decQ a.toNat (b1 :: r1) = none := by unfold decQ; rw [hc]; dsimp only; rw [if_pos (by omega)]
        rw [hq]
        exact rt rfl
      · have f1 : decide ((b1.toNat : Int) < (lo : Int)) = false := decide_eq_false (by omega)
        have f2 : (decide ((b1.toNat : Int) < (lo : Int)) == false) = true := by rw [f1]; rfl
        refine ct f2 ?_
        refine ct f2 ?_
        refine ld1 1 rfl rfl ?_
        iterate 2 refine ct f2 ?_
        refine cf f1 ?_
        by_cases l2 : hi < b1.toNat
        · refine ct (decide_eq_true (by omega)) ?_
          have hq : decQ a.toNat (b1 :: r1) = none := by unfold decQ; rw [hc]; dsimp only; rw [if_pos (by omega)]
          rw [hq]
          exact rt rfl
        · refine cf (decide_eq_false (by omega)) ?_
          refine ct rfl ?_
          refine .as ((a.toNat % 32 : Nat) : Int) (by rw [show bitI .and .u8 (a.toNat : Int) 31 = ((a.toNat &&& 31 : Nat) : Int) from andB a.toNat 31 (by omega) (by decide), and_m a.toNat 5]) (by simp only [mn]; omega) (by simp only [mx]; omega) ?_
          refine ⟨by decide, .as (((a.toNat % 32) * 64 : Nat) : Int) (by show (((a.toNat % 32) : Nat) : Int) * 2 ^ 6 = _; omega) (by simp only [mn]; omega) (by simp only [mx]; omega) ?_⟩
          refine .as ((b1.toNat % 64 : Nat) : Int) (by rw [show bitI .and .u8 (b1.toNat : Int) 63 = ((b1.toNat &&& 63 : Nat) : Int) from andB b1.toNat 63 (by omega) (by decide), and_m b1.toNat 6]) (by simp only [mn]; omega) (by simp only [mx]; omega) ?_
          refine rt ?_
          have hq : decQ a.toNat (b1 :: r1) = some (a.toNat % 32 * 64 + b1.toNat % 64, 2) := by unfold decQ; rw [hc]; dsimp only; rw [if_neg (by omega)]; rw [if_pos rfl]
          rw [hq]
          have he : bitI .or .i32 (((a.toNat % 32 * 64 : Nat) : Int)) ((b1.toNat % 64 : Nat) : Int) = ((a.toNat % 32 * 64 + b1.toNat % 64 : Nat) : Int) := by
            rw [orI (a.toNat % 32 * 64) (b1.toNat % 64) (by omega) (by omega), show a.toNat % 32 * 64 = (a.toNat % 32) * 2 ^ 6 by omega, or_add (a.toNat % 32) (b1.toNat % 64) 6 (by omega), show (a.toNat % 32) * 2 ^ 6 = a.toNat % 32 * 64 by omega]
          show Value.tuple #[.int .i32 (_), .int .i64 _] = _
          exact congrArg (fun y => Value.tuple #[.int .i32 y, .int .i64 2]) he
    · refine chL 1 rfl rfl ?_
      refine ld1 1 rfl rfl ?_
      by_cases l1 : b1.toNat < lo
      · have f1 : decide ((b1.toNat : Int) < (lo : Int)) = true := decide_eq_true (by omega)
        have f2 : (decide ((b1.toNat : Int) < (lo : Int)) == false) = false := by rw [f1]; rfl
        iterate 4 refine cf f2 ?_
        refine ct f1 ?_
        refine ct rfl ?_
        have hq : decQ a.toNat (b1 :: r1) = none := by unfold decQ; rw [hc]; dsimp only; rw [if_pos (by omega)]
        rw [hq]
        exact rt rfl
      · have f1 : decide ((b1.toNat : Int) < (lo : Int)) = false := decide_eq_false (by omega)
        have f2 : (decide ((b1.toNat : Int) < (lo : Int)) == false) = true := by rw [f1]; rfl
        refine ct f2 ?_
        refine ct f2 ?_
        refine ld1 1 rfl rfl ?_
        iterate 2 refine ct f2 ?_
        refine cf f1 ?_
        by_cases l2 : hi < b1.toNat
        · refine ct (decide_eq_true (by omega)) ?_
          have hq : decQ a.toNat (b1 :: r1) = none := by unfold decQ; rw [hc]; dsimp only; rw [if_pos (by omega)]
          rw [hq]
          exact rt rfl
        · refine cf (decide_eq_false (by omega)) ?_
          refine cf rfl ?_
          obtain ⟨b2, r2, rfl⟩ : ∃ b t, r1 = b :: t := by
            cases r1 with
            | nil => simp at hn
            | cons b t => exact ⟨b, t, rfl⟩
          have hb2 := b2.toNat_lt
          refine chL 2 rfl rfl ?_
          by_cases l1 : b2.toNat < 128
          · have f1 : decide ((b2.toNat : Int) < (128 : Int)) = true := decide_eq_true (by omega)
            have f2 : (decide ((b2.toNat : Int) < (128 : Int)) == false) = false := by rw [f1]; rfl
            iterate 2 refine cf f2 ?_
            refine ct f1 ?_
            refine ct rfl ?_
            have hq : decQ a.toNat (b1 :: b2 :: r2) = none := by unfold decQ; rw [hc]; dsimp only; rw [if_neg (by omega)]; rw [if_neg (by decide)]; rw [if_pos (by omega)]
            rw [hq]
            exact rt rfl
          · have f1 : decide ((b2.toNat : Int) < (128 : Int)) = false := decide_eq_false (by omega)
            have f2 : (decide ((b2.toNat : Int) < (128 : Int)) == false) = true := by rw [f1]; rfl
            iterate 2 refine ct f2 ?_
            refine cf f1 ?_
            by_cases l2 : 191 < b2.toNat
            · refine ct (decide_eq_true (by omega)) ?_
              have hq : decQ a.toNat (b1 :: b2 :: r2) = none := by unfold decQ; rw [hc]; dsimp only; rw [if_neg (by omega)]; rw [if_neg (by decide)]; rw [if_pos (by omega)]
              rw [hq]
              exact rt rfl
            · refine cf (decide_eq_false (by omega)) ?_
              refine ct rfl ?_
              refine .as ((a.toNat % 16 : Nat) : Int) (by rw [show bitI .and .u8 (a.toNat : Int) 15 = ((a.toNat &&& 15 : Nat) : Int) from andB a.toNat 15 (by omega) (by decide), and_m a.toNat 4]) (by simp only [mn]; omega) (by simp only [mx]; omega) ?_
              refine ⟨by decide, .as (((a.toNat % 16) * 4096 : Nat) : Int) (by show (((a.toNat % 16) : Nat) : Int) * 2 ^ 12 = _; omega) (by simp only [mn]; omega) (by simp only [mx]; omega) ?_⟩
              refine .as ((b1.toNat % 64 : Nat) : Int) (by rw [show bitI .and .u8 (b1.toNat : Int) 63 = ((b1.toNat &&& 63 : Nat) : Int) from andB b1.toNat 63 (by omega) (by decide), and_m b1.toNat 6]) (by simp only [mn]; omega) (by simp only [mx]; omega) ?_
              refine ⟨by decide, .as (((b1.toNat % 64) * 64 : Nat) : Int) (by show (((b1.toNat % 64) : Nat) : Int) * 2 ^ 6 = _; omega) (by simp only [mn]; omega) (by simp only [mx]; omega) ?_⟩
              refine .as ((b2.toNat % 64 : Nat) : Int) (by rw [show bitI .and .u8 (b2.toNat : Int) 63 = ((b2.toNat &&& 63 : Nat) : Int) from andB b2.toNat 63 (by omega) (by decide), and_m b2.toNat 6]) (by simp only [mn]; omega) (by simp only [mx]; omega) ?_
              refine rt ?_
              have hq : decQ a.toNat (b1 :: b2 :: r2) = some (a.toNat % 16 * 4096 + b1.toNat % 64 * 64 + b2.toNat % 64, 3) := by unfold decQ; rw [hc]; dsimp only; rw [if_neg (by omega)]; rw [if_neg (by decide)]; rw [if_neg (by omega)]; rw [if_pos rfl]
              rw [hq]
              have he : bitI .or .i32 (bitI .or .i32 (((a.toNat % 16 * 4096 : Nat) : Int)) ((b1.toNat % 64 * 64 : Nat) : Int)) ((b2.toNat % 64 : Nat) : Int) = ((a.toNat % 16 * 4096 + b1.toNat % 64 * 64 + b2.toNat % 64 : Nat) : Int) := by
                rw [orI (a.toNat % 16 * 4096) (b1.toNat % 64 * 64) (by omega) (by omega), show a.toNat % 16 * 4096 = (a.toNat % 16) * 2 ^ 12 by omega, or_add (a.toNat % 16) (b1.toNat % 64 * 64) 12 (by omega), show (a.toNat % 16) * 2 ^ 12 = a.toNat % 16 * 4096 by omega]
                rw [orI (a.toNat % 16 * 4096 + b1.toNat % 64 * 64) (b2.toNat % 64) (by omega) (by omega), show a.toNat % 16 * 4096 + b1.toNat % 64 * 64 = (a.toNat % 16 * 64 + b1.toNat % 64) * 2 ^ 6 by omega, or_add (a.toNat % 16 * 64 + b1.toNat % 64) (b2.toNat % 64) 6 (by omega), show (a.toNat % 16 * 64 + b1.toNat % 64) * 2 ^ 6 = a.toNat % 16 * 4096 + b1.toNat % 64 * 64 by omega]
              show Value.tuple #[.int .i32 (_), .int .i64 _] = _
              exact congrArg (fun y => Value.tuple #[.int .i32 y, .int .i64 3]) he
    · refine chL 1 rfl rfl ?_
      refine ld1 1 rfl rfl ?_
      by_cases l1 : b1.toNat < lo
      · have f1 : decide ((b1.toNat : Int) < (lo : Int)) = true := decide_eq_true (by omega)
        have f2 : (decide ((b1.toNat : Int) < (lo : Int)) == false) = false := by rw [f1]; rfl
        iterate 4 refine cf f2 ?_
        refine ct f1 ?_
        refine ct rfl ?_
        have hq : decQ a.toNat (b1 :: r1) = none := by unfold decQ; rw [hc]; dsimp only; rw [if_pos (by omega)]
        rw [hq]
        exact rt rfl
      · have f1 : decide ((b1.toNat : Int) < (lo : Int)) = false := decide_eq_false (by omega)
        have f2 : (decide ((b1.toNat : Int) < (lo : Int)) == false) = true := by rw [f1]; rfl
        refine ct f2 ?_
        refine ct f2 ?_
        refine ld1 1 rfl rfl ?_
        iterate 2 refine ct f2 ?_
        refine cf f1 ?_
        by_cases l2 : hi < b1.toNat
        · refine ct (decide_eq_true (by omega)) ?_
          have hq : decQ a.toNat (b1 :: r1) = none := by unfold decQ; rw [hc]; dsimp only; rw [if_pos (by omega)]
          rw [hq]
          exact rt rfl
        · refine cf (decide_eq_false (by omega)) ?_
          refine cf rfl ?_
          obtain ⟨b2, r2, rfl⟩ : ∃ b t, r1 = b :: t := by
            cases r1 with
            | nil => simp at hn
            | cons b t => exact ⟨b, t, rfl⟩
          have hb2 := b2.toNat_lt
          refine chL 2 rfl rfl ?_
          by_cases l1 : b2.toNat < 128
          · have f1 : decide ((b2.toNat : Int) < (128 : Int)) = true := decide_eq_true (by omega)
            have f2 : (decide ((b2.toNat : Int) < (128 : Int)) == false) = false := by rw [f1]; rfl
            iterate 2 refine cf f2 ?_
            refine ct f1 ?_
            refine ct rfl ?_
            have hq : decQ a.toNat (b1 :: b2 :: r2) = none := by unfold decQ; rw [hc]; dsimp only; rw [if_neg (by omega)]; rw [if_neg (by decide)]; rw [if_pos (by omega)]
            rw [hq]
            exact rt rfl
          · have f1 : decide ((b2.toNat : Int) < (128 : Int)) = false := decide_eq_false (by omega)
            have f2 : (decide ((b2.toNat : Int) < (128 : Int)) == false) = true := by rw [f1]; rfl
            iterate 2 refine ct f2 ?_
            refine cf f1 ?_
            by_cases l2 : 191 < b2.toNat
            · refine ct (decide_eq_true (by omega)) ?_
              have hq : decQ a.toNat (b1 :: b2 :: r2) = none := by unfold decQ; rw [hc]; dsimp only; rw [if_neg (by omega)]; rw [if_neg (by decide)]; rw [if_pos (by omega)]
              rw [hq]
              exact rt rfl
            · refine cf (decide_eq_false (by omega)) ?_
              refine cf rfl ?_
              obtain ⟨b3, r3, rfl⟩ : ∃ b t, r2 = b :: t := by
                cases r2 with
                | nil => simp at hn
                | cons b t => exact ⟨b, t, rfl⟩
              have hb3 := b3.toNat_lt
              refine chL 3 rfl rfl ?_
              by_cases l1 : b3.toNat < 128
              · have f1 : decide ((b3.toNat : Int) < (128 : Int)) = true := decide_eq_true (by omega)
                have f2 : (decide ((b3.toNat : Int) < (128 : Int)) == false) = false := by rw [f1]; rfl
                iterate 2 refine cf f2 ?_
                refine ct f1 ?_
                refine ct rfl ?_
                have hq : decQ a.toNat (b1 :: b2 :: b3 :: r3) = none := by unfold decQ; rw [hc]; dsimp only; rw [if_neg (by omega)]; rw [if_neg (by decide)]; rw [if_neg (by omega)]; rw [if_neg (by decide)]; rw [if_pos (by omega)]
                rw [hq]
                exact rt rfl
              · have f1 : decide ((b3.toNat : Int) < (128 : Int)) = false := decide_eq_false (by omega)
                have f2 : (decide ((b3.toNat : Int) < (128 : Int)) == false) = true := by rw [f1]; rfl
                iterate 2 refine ct f2 ?_
                refine cf f1 ?_
                by_cases l2 : 191 < b3.toNat
                · refine ct (decide_eq_true (by omega)) ?_
                  have hq : decQ a.toNat (b1 :: b2 :: b3 :: r3) = none := by unfold decQ; rw [hc]; dsimp only; rw [if_neg (by omega)]; rw [if_neg (by decide)]; rw [if_neg (by omega)]; rw [if_neg (by decide)]; rw [if_pos (by omega)]
                  rw [hq]
                  exact rt rfl
                · refine cf (decide_eq_false (by omega)) ?_
                  refine .as ((a.toNat % 8 : Nat) : Int) (by rw [show bitI .and .u8 (a.toNat : Int) 7 = ((a.toNat &&& 7 : Nat) : Int) from andB a.toNat 7 (by omega) (by decide), and_m a.toNat 3]) (by simp only [mn]; omega) (by simp only [mx]; omega) ?_
                  refine ⟨by decide, .as (((a.toNat % 8) * 262144 : Nat) : Int) (by show (((a.toNat % 8) : Nat) : Int) * 2 ^ 18 = _; omega) (by simp only [mn]; omega) (by simp only [mx]; omega) ?_⟩
                  refine .as ((b1.toNat % 64 : Nat) : Int) (by rw [show bitI .and .u8 (b1.toNat : Int) 63 = ((b1.toNat &&& 63 : Nat) : Int) from andB b1.toNat 63 (by omega) (by decide), and_m b1.toNat 6]) (by simp only [mn]; omega) (by simp only [mx]; omega) ?_
                  refine ⟨by decide, .as (((b1.toNat % 64) * 4096 : Nat) : Int) (by show (((b1.toNat % 64) : Nat) : Int) * 2 ^ 12 = _; omega) (by simp only [mn]; omega) (by simp only [mx]; omega) ?_⟩
                  refine .as ((b2.toNat % 64 : Nat) : Int) (by rw [show bitI .and .u8 (b2.toNat : Int) 63 = ((b2.toNat &&& 63 : Nat) : Int) from andB b2.toNat 63 (by omega) (by decide), and_m b2.toNat 6]) (by simp only [mn]; omega) (by simp only [mx]; omega) ?_
                  refine ⟨by decide, .as (((b2.toNat % 64) * 64 : Nat) : Int) (by show (((b2.toNat % 64) : Nat) : Int) * 2 ^ 6 = _; omega) (by simp only [mn]; omega) (by simp only [mx]; omega) ?_⟩
                  refine .as ((b3.toNat % 64 : Nat) : Int) (by rw [show bitI .and .u8 (b3.toNat : Int) 63 = ((b3.toNat &&& 63 : Nat) : Int) from andB b3.toNat 63 (by omega) (by decide), and_m b3.toNat 6]) (by simp only [mn]; omega) (by simp only [mx]; omega) ?_
                  refine rt ?_
                  have hq : decQ a.toNat (b1 :: b2 :: b3 :: r3) = some (a.toNat % 8 * 262144 + b1.toNat % 64 * 4096 + b2.toNat % 64 * 64 + b3.toNat % 64, 4) := by unfold decQ; rw [hc]; dsimp only; rw [if_neg (by omega)]; rw [if_neg (by decide)]; rw [if_neg (by omega)]; rw [if_neg (by decide)]; rw [if_neg (by omega)]; 
                  rw [hq]
                  have he : bitI .or .i32 (bitI .or .i32 (bitI .or .i32 (((a.toNat % 8 * 262144 : Nat) : Int)) ((b1.toNat % 64 * 4096 : Nat) : Int)) ((b2.toNat % 64 * 64 : Nat) : Int)) ((b3.toNat % 64 : Nat) : Int) = ((a.toNat % 8 * 262144 + b1.toNat % 64 * 4096 + b2.toNat % 64 * 64 + b3.toNat % 64 : Nat) : Int) := by
                    rw [orI (a.toNat % 8 * 262144) (b1.toNat % 64 * 4096) (by omega) (by omega), show a.toNat % 8 * 262144 = (a.toNat % 8) * 2 ^ 18 by omega, or_add (a.toNat % 8) (b1.toNat % 64 * 4096) 18 (by omega), show (a.toNat % 8) * 2 ^ 18 = a.toNat % 8 * 262144 by omega]
                    rw [orI (a.toNat % 8 * 262144 + b1.toNat % 64 * 4096) (b2.toNat % 64 * 64) (by omega) (by omega), show a.toNat % 8 * 262144 + b1.toNat % 64 * 4096 = (a.toNat % 8 * 64 + b1.toNat % 64) * 2 ^ 12 by omega, or_add (a.toNat % 8 * 64 + b1.toNat % 64) (b2.toNat % 64 * 64) 12 (by omega), show (a.toNat % 8 * 64 + b1.toNat % 64) * 2 ^ 12 = a.toNat % 8 * 262144 + b1.toNat % 64 * 4096 by omega]
                    rw [orI (a.toNat % 8 * 262144 + b1.toNat % 64 * 4096 + b2.toNat % 64 * 64) (b3.toNat % 64) (by omega) (by omega), show a.toNat % 8 * 262144 + b1.toNat % 64 * 4096 + b2.toNat % 64 * 64 = (a.toNat % 8 * 4096 + b1.toNat % 64 * 64 + b2.toNat % 64) * 2 ^ 6 by omega, or_add (a.toNat % 8 * 4096 + b1.toNat % 64 * 64 + b2.toNat % 64) (b3.toNat % 64) 6 (by omega), show (a.toNat % 8 * 4096 + b1.toNat % 64 * 64 + b2.toNat % 64) * 2 ^ 6 = a.toNat % 8 * 262144 + b1.toNat % 64 * 4096 + b2.toNat % 64 * 64 by omega]
                  show Value.tuple #[.int .i32 (_), .int .i64 _] = _
                  exact congrArg (fun y => Value.tuple #[.int .i32 y, .int .i64 4]) he
end Go.Proofs.YtpegkoklmhccjaaDoor
