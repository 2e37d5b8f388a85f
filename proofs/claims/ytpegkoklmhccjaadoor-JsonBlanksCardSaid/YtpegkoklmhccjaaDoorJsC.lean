/- Chapter 12: the reader: what stands behind a backslash. -/
import Derived.Test.YtpegkoklmhccjaaDoorJsB
namespace Go.Proofs.YtpegkoklmhccjaaDoor
open Go.RowKit Go.Sx
set_option linter.unusedVariables false
theorem or_add (x c j : Nat) (hc : c < 2 ^ j) : x * 2 ^ j ||| c = x * 2 ^ j + c := by
  rw [← Nat.shiftLeft_eq]; exact (Nat.shiftLeft_add_eq_or_of_lt hc x).symm
theorem orI (a b : Nat) (ha : a < 2147483648) (hb : b < 2147483648) : bitI .or .i32 (a : Int) (b : Int) = ((a ||| b : Nat) : Int) := by
  have h : a ||| b < 2 ^ 31 := Nat.or_lt_two_pow (by omega) (by omega)
  show IntKind.i32.wrap ((BitVec.ofInt 32 (a : Int) ||| BitVec.ofInt 32 (b : Int)).toNat : Int) = _
  simp only [BitVec.ofInt_natCast, BitVec.toNat_or, BitVec.toNat_ofNat]
  rw [Nat.mod_eq_of_lt (by omega), Nat.mod_eq_of_lt (by omega)]
  rw [IntKind.wrap_i32]; omega
theorem orB (a b : Nat) (ha : a < 256) (hb : b < 256) : bitI .or .u8 (a : Int) (b : Int) = ((a ||| b : Nat) : Int) := by
  have h : a ||| b < 2 ^ 8 := Nat.or_lt_two_pow (by omega) (by omega)
  show IntKind.u8.wrap ((BitVec.ofInt 8 (a : Int) ||| BitVec.ofInt 8 (b : Int)).toNat : Int) = _
  simp only [BitVec.ofInt_natCast, BitVec.toNat_or, BitVec.toNat_ofNat]
  rw [Nat.mod_eq_of_lt (by omega), Nat.mod_eq_of_lt (by omega)]
  rw [IntKind.wrap_u8]; omega
theorem andB (a b : Nat) (ha : a < 256) (hb : b < 256) : bitI .and .u8 (a : Int) (b : Int) = ((a &&& b : Nat) : Int) := by
  have h : a &&& b ≤ a := Nat.and_le_left
  show IntKind.u8.wrap ((BitVec.ofInt 8 (a : Int) &&& BitVec.ofInt 8 (b : Int)).toNat : Int) = _
  simp only [BitVec.ofInt_natCast, BitVec.toNat_and, BitVec.toNat_ofNat]
  rw [Nat.mod_eq_of_lt (by omega), Nat.mod_eq_of_lt (by omega)]
  rw [IntKind.wrap_u8]; omega
/-- a hexadecimal figure -/
def hexN (n : Nat) : Option Nat := if 48 ≤ n ∧ n ≤ 57 then some (n - 48) else if 65 ≤ n ∧ n ≤ 70 then some (n - 55) else if 97 ≤ n ∧ n ≤ 102 then some (n - 87) else none
theorem hex_tab (n : Nat) (h : n < 256) (hd : ¬ (48 ≤ n ∧ n ≤ 57)) : hexN n = if 97 ≤ n ||| 32 ∧ n ||| 32 ≤ 102 then some ((n ||| 32) - 97 + 10) else none := by
  have : (List.range 256).all (fun n => (decide (48 ≤ n ∧ n ≤ 57)) || decide (hexN n = if 97 ≤ n ||| 32 ∧ n ||| 32 ≤ 102 then some ((n ||| 32) - 97 + 10) else none)) = true := by decide +kernel
  have h1 := List.all_eq_true.1 this n (by simpa using h)
  rw [decide_eq_false hd, Bool.false_or] at h1
  exact of_decide_eq_true h1
theorem hexN_lt (n v : Nat) (h : hexN n = some v) : v < 16 := by
  unfold hexN at h
  split at h
  · injection h with h; omega
  · split at h
    · injection h with h; omega
    · split at h
      · injection h with h; omega
      · cases h
def hexP : Nat → Nat → Bs → Option (Nat × Bs)
  | 0, n, s => some (n, s)
  | _ + 1, _, [] => none
  | k + 1, n, c :: s => match hexN c.toNat with
    | none => none
    | some v => hexP k (16 * n + v) s
theorem hexP_one (k n : Nat) (c : UInt8) (t : Bs) (v : Nat) (h : hexN c.toNat = some v) : hexP (k + 1) n (c :: t) = hexP k (16 * n + v) t := by rw [hexP, h]
theorem hexP_no (k n : Nat) (c : UInt8) (t : Bs) (h : hexN c.toNat = none) : hexP (k + 1) n (c :: t) = none := by rw [hexP, h]
structure RnO where
  n : Nat
  t : Bs
  bad : Bool
/-- what comes of it: a sign, or the text isn't in form -/
def RnF (o : Option (Nat × Bs)) (s : Bs) (bad : Bool) (x : RnO) : Prop := x.t.length ≤ s.length ∧ ((o = none ∧ x.n = 0 ∧ x.bad = true) ∨ (o = some (x.n, x.t) ∧ x.bad = bad))
theorem or16 (n v : Nat) (hn : n < 4096) (hv : v < 16) : bitI .or .i32 ((16 * n : Nat) : Int) (v : Int) = ((16 * n + v : Nat) : Int) := by
  rw [orI _ _ (by omega) (by omega), show 16 * n = n * 2 ^ 4 by omega, or_add n v 4 hv]
structure HxI where
  n : Nat
  t : Bs
  i : Nat
section
variable {b : Nat} {s : Bs} {bad : Bool} {d : Int} {w : World}
set_option maxRecDepth 100000 in
theorem hex_any (h : w.heap[b]? = some (.cells (rdC s bad d) TRd (0, 0))) : Calls Tryd.prog 84 ([pj b] : List Value).toArray w fun e w' => ∃ x : RnO, RnF (hexP 4 0 s) s bad x ∧ e = .returned (.int .i32 x.n) ∧ Upd b (rdC x.t x.bad d) TRd w w' := by
  refine enterUx tab_ok Tryd.func84 rfl Tryd.ntmps84 rfl h ?_
  refine lp tab_ok (fun x : HxI => x.i ≤ 4 ∧ x.n < 16 ^ x.i ∧ hexP 4 0 s = hexP (4 - x.i) x.n x.t ∧ x.t.length ≤ s.length) (fun x => ⟨[(0, pj b), (3, .int .i32 (x.n : Int)), (5, .int .i64 (x.i : Int))], [cl b (rdC x.t bad d) TRd], []⟩) (fun x => 4 - x.i) ⟨0, s, 0⟩ ⟨Nat.zero_le _, Nat.one_pos, rfl, Nat.le_refl _⟩ ⟨⟨rfl, rfl, rfl, trivial⟩, .cons .nil, rfl⟩ ?_
  rintro ⟨n, t, i⟩ ⟨hi, hn, hh, ht⟩
  dsimp only at hi hn hh ht ⊢
  refine cd (fun h4 => ?_) (fun h4 => ?_)
  · have h4' : i < 4 := by omega
    have hn3 : n < 4096 := Nat.lt_of_lt_of_le hn (Nat.pow_le_pow_right (by decide) (show i ≤ 3 by omega))
    refine ld1 0 rfl (v := sj t) rfl ?_
    cases t with
    | nil =>
      refine ct (by simp) ?_
      refine cU1 0 rfl (fun w h => fail_any h) ?_
      exact rtUx (Φ := RnF (hexP 4 0 s) s bad) (⟨0, [], true⟩ : RnO) ⟨Nat.zero_le _, .inl ⟨by rw [hh, show 4 - i = (3 - i) + 1 by omega]; rfl, rfl, rfl⟩⟩ rfl
    | cons c t =>
      have hc := c.toNat_lt
      refine cf (ne0 c t) ?_
      refine ld1 0 rfl (v := sj (c :: t)) rfl ?_
      refine chL 0 rfl rfl ?_
      refine ld1 0 rfl (v := sj (c :: t)) rfl ?_
      refine chL 0 rfl rfl ?_
      have hor : bitI .or .u8 (c.toNat : Int) 32 = ((c.toNat ||| 32 : Nat) : Int) := orB c.toNat 32 hc (by decide)
      by_cases hdg : 48 ≤ c.toNat ∧ c.toNat ≤ 57
      · have f1 : decide ((c.toNat : Int) ≥ 48) = true := decide_eq_true (by omega)
        have f2 : (decide ((c.toNat : Int) ≥ 48) == true) = true := by rw [f1]; rfl
        obtain ⟨v, hvv⟩ : ∃ v, v = c.toNat - 48 := ⟨_, rfl⟩
        have hv : hexN c.toNat = some v := by unfold hexN; rw [if_pos hdg, hvv]
        iterate 4 refine ct f2 ?_
        refine ld1 0 rfl (v := sj (c :: t)) rfl ?_
        refine ct f2 ?_
        refine chL 0 rfl rfl ?_
        refine ct f2 ?_
        refine ct f1 ?_
        refine ct (decide_eq_true (by omega)) ?_
        refine ⟨by decide, .as ((16 * n : Nat) : Int) (by show (n : Int) * 2 ^ 4 = _; omega) (by simp only [mn]; omega) (by simp only [mx]; omega) ?_⟩
        refine ld1 0 rfl (v := sj (c :: t)) rfl ?_
        refine chL 0 rfl rfl ?_
        refine .as (v : Int) (by omega) (by simp only [mn]; omega) (by simp only [mx]; omega) ?_
        refine .same (by simp only [mn]; omega) (by simp only [mx]; omega) ?_
        refine ld1 0 rfl (v := sj (c :: t)) rfl ?_
        refine slL 1 (by simp) rfl ?_
        refine s1 0 rfl (by show 0 < 3; decide) ?_
        refine .as (((i + 1 : Nat) : Int)) (by omega) (by simp only [mn]; omega) (by simp only [mx]; omega) ?_
        exact ⟨⟨16 * n + v, t, i + 1⟩, ⟨by dsimp only; omega, by dsimp only; rw [Nat.pow_succ]; have := hexN_lt _ _ hv; omega, by rw [hh, show 4 - i = (4 - (i + 1)) + 1 by omega, hexP_one _ _ _ _ _ hv], by simp at ht ⊢; omega⟩, by dsimp only; omega, ⟨rfl, congrArg (fun z => some (Value.int .i32 z)) (or16 n v hn3 (hexN_lt _ _ hv)), rfl, trivial⟩, .cons .nil, rfl⟩
      · have htab := hex_tab c.toNat hc hdg
        obtain ⟨m, hm⟩ : ∃ m, m = c.toNat ||| 32 := ⟨_, rfl⟩
        rw [← hm] at htab hor
        by_cases h48 : 48 ≤ c.toNat
        · have f1 : decide ((c.toNat : Int) ≥ 48) = true := decide_eq_true (by omega)
          have f2 : (decide ((c.toNat : Int) ≥ 48) == true) = true := by rw [f1]; rfl
          iterate 4 refine ct f2 ?_
          refine ld1 0 rfl (v := sj (c :: t)) rfl ?_
          refine ct f2 ?_
          refine chL 0 rfl rfl ?_
          refine ct f2 ?_
          refine ct f1 ?_
          refine cf (decide_eq_false (by omega)) ?_
          by_cases h97 : 97 ≤ m
          · have g1 : decide (bitI .or .u8 (c.toNat : Int) 32 ≥ 97) = true := by rw [hor]; exact decide_eq_true (by omega)
            have g2 : (decide (bitI .or .u8 (c.toNat : Int) 32 ≥ 97) == true) = true := by rw [g1]; rfl
            iterate 2 refine ct g2 ?_
            refine ct g1 ?_
            by_cases h102 : m ≤ 102
            · obtain ⟨v, hvv⟩ : ∃ v, v = m - 97 + 10 := ⟨_, rfl⟩
              have hv : hexN c.toNat = some v := by rw [htab, if_pos ⟨h97, h102⟩, hvv]
              refine ct (by rw [hor]; exact decide_eq_true (by omega)) ?_
              refine ⟨by decide, .as ((16 * n : Nat) : Int) (by show (n : Int) * 2 ^ 4 = _; omega) (by simp only [mn]; omega) (by simp only [mx]; omega) ?_⟩
              refine .as ((m - 97 : Nat) : Int) (by rw [hor]; omega) (by simp only [mn]; omega) (by simp only [mx]; omega) ?_
              refine .as (v : Int) (by omega) (by simp only [mn]; omega) (by simp only [mx]; omega) ?_
              refine .same (by simp only [mn]; omega) (by simp only [mx]; omega) ?_
              refine ld1 0 rfl (v := sj (c :: t)) rfl ?_
              refine slL 1 (by simp) rfl ?_
              refine s1 0 rfl (by show 0 < 3; decide) ?_
              refine .as (((i + 1 : Nat) : Int)) (by omega) (by simp only [mn]; omega) (by simp only [mx]; omega) ?_
              exact ⟨⟨16 * n + v, t, i + 1⟩, ⟨by dsimp only; omega, by dsimp only; rw [Nat.pow_succ]; have := hexN_lt _ _ hv; omega, by rw [hh, show 4 - i = (4 - (i + 1)) + 1 by omega, hexP_one _ _ _ _ _ hv], by simp at ht ⊢; omega⟩, by dsimp only; omega, ⟨rfl, congrArg (fun z => some (Value.int .i32 z)) (or16 n v hn3 (hexN_lt _ _ hv)), rfl, trivial⟩, .cons .nil, rfl⟩
            · refine cf (by rw [hor]; exact decide_eq_false (by omega)) ?_
              refine cU1 0 rfl (fun w h => fail_any h) ?_
              exact rtUx (Φ := RnF (hexP 4 0 s) s bad) (⟨0, c :: t, true⟩ : RnO) ⟨ht, .inl ⟨by rw [hh, show 4 - i = (3 - i) + 1 by omega]; exact hexP_no _ _ _ _ (by rw [htab, if_neg (by omega)]), rfl, rfl⟩⟩ rfl
          · have g1 : decide (bitI .or .u8 (c.toNat : Int) 32 ≥ 97) = false := by rw [hor]; exact decide_eq_false (by omega)
            have g2 : (decide (bitI .or .u8 (c.toNat : Int) 32 ≥ 97) == true) = false := by rw [g1]; rfl
            iterate 2 refine cf g2 ?_
            refine cf g1 ?_
            refine cf rfl ?_
            refine cU1 0 rfl (fun w h => fail_any h) ?_
            exact rtUx (Φ := RnF (hexP 4 0 s) s bad) (⟨0, c :: t, true⟩ : RnO) ⟨ht, .inl ⟨by rw [hh, show 4 - i = (3 - i) + 1 by omega]; exact hexP_no _ _ _ _ (by rw [htab, if_neg (by omega)]), rfl, rfl⟩⟩ rfl
        · have f1 : decide ((c.toNat : Int) ≥ 48) = false := decide_eq_false (by omega)
          have f2 : (decide ((c.toNat : Int) ≥ 48) == true) = false := by rw [f1]; rfl
          iterate 6 refine cf f2 ?_
          refine cf f1 ?_
          refine cf rfl ?_
          by_cases h97 : 97 ≤ m
          · have g1 : decide (bitI .or .u8 (c.toNat : Int) 32 ≥ 97) = true := by rw [hor]; exact decide_eq_true (by omega)
            have g2 : (decide (bitI .or .u8 (c.toNat : Int) 32 ≥ 97) == true) = true := by rw [g1]; rfl
            iterate 2 refine ct g2 ?_
            refine ct g1 ?_
            by_cases h102 : m ≤ 102
            · obtain ⟨v, hvv⟩ : ∃ v, v = m - 97 + 10 := ⟨_, rfl⟩
              have hv : hexN c.toNat = some v := by rw [htab, if_pos ⟨h97, h102⟩, hvv]
              refine ct (by rw [hor]; exact decide_eq_true (by omega)) ?_
              refine ⟨by decide, .as ((16 * n : Nat) : Int) (by show (n : Int) * 2 ^ 4 = _; omega) (by simp only [mn]; omega) (by simp only [mx]; omega) ?_⟩
              refine .as ((m - 97 : Nat) : Int) (by rw [hor]; omega) (by simp only [mn]; omega) (by simp only [mx]; omega) ?_
              refine .as (v : Int) (by omega) (by simp only [mn]; omega) (by simp only [mx]; omega) ?_
              refine .same (by simp only [mn]; omega) (by simp only [mx]; omega) ?_
              refine ld1 0 rfl (v := sj (c :: t)) rfl ?_
              refine slL 1 (by simp) rfl ?_
              refine s1 0 rfl (by show 0 < 3; decide) ?_
              refine .as (((i + 1 : Nat) : Int)) (by omega) (by simp only [mn]; omega) (by simp only [mx]; omega) ?_
              exact ⟨⟨16 * n + v, t, i + 1⟩, ⟨by dsimp only; omega, by dsimp only; rw [Nat.pow_succ]; have := hexN_lt _ _ hv; omega, by rw [hh, show 4 - i = (4 - (i + 1)) + 1 by omega, hexP_one _ _ _ _ _ hv], by simp at ht ⊢; omega⟩, by dsimp only; omega, ⟨rfl, congrArg (fun z => some (Value.int .i32 z)) (or16 n v hn3 (hexN_lt _ _ hv)), rfl, trivial⟩, .cons .nil, rfl⟩
            · refine cf (by rw [hor]; exact decide_eq_false (by omega)) ?_
              refine cU1 0 rfl (fun w h => fail_any h) ?_
              exact rtUx (Φ := RnF (hexP 4 0 s) s bad) (⟨0, c :: t, true⟩ : RnO) ⟨ht, .inl ⟨by rw [hh, show 4 - i = (3 - i) + 1 by omega]; exact hexP_no _ _ _ _ (by rw [htab, if_neg (by omega)]), rfl, rfl⟩⟩ rfl
          · have g1 : decide (bitI .or .u8 (c.toNat : Int) 32 ≥ 97) = false := by rw [hor]; exact decide_eq_false (by omega)
            have g2 : (decide (bitI .or .u8 (c.toNat : Int) 32 ≥ 97) == true) = false := by rw [g1]; rfl
            iterate 2 refine cf g2 ?_
            refine cf g1 ?_
            refine cf rfl ?_
            refine cU1 0 rfl (fun w h => fail_any h) ?_
            exact rtUx (Φ := RnF (hexP 4 0 s) s bad) (⟨0, c :: t, true⟩ : RnO) ⟨ht, .inl ⟨by rw [hh, show 4 - i = (3 - i) + 1 by omega]; exact hexP_no _ _ _ _ (by rw [htab, if_neg (by omega)]), rfl, rfl⟩⟩ rfl
  · obtain rfl : i = 4 := by omega
    exact rtUx (Φ := RnF (hexP 4 0 s) s bad) (⟨n, t, bad⟩ : RnO) ⟨ht, .inr ⟨hh, rfl⟩⟩ rfl
end
end Go.Proofs.YtpegkoklmhccjaaDoor
