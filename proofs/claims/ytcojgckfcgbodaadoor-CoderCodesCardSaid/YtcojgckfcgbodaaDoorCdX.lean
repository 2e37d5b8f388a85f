/- The reference's bytes of signs of six bits: the walk. -/
import Derived.Test.YtcojgckfcgbodaaDoorCdV
import Derived.Test.YtcojgckfcgbodaaDoorCdW
namespace Go.Proofs.YtcojgckfcgbodaaDoor
open Go.RowKit Go.Sx
set_option linter.unusedVariables false

/-- which sign, 0 where it is none -/
def pl6 (c : UInt8) : Nat := (firstIdx sixS c).toNat
theorem pl6_lt (c : UInt8) : pl6 c < 64 := by
  unfold pl6
  rw [firstIdx_eq]
  cases h : idxO sixS c with
  | none => decide
  | some j => have := (idxO_lt h).1; have e : sixS.size = 64 := rfl; simp only; omega
/-- k signs as a number -/
def nn (C : Nat → UInt8) : Nat → Nat
  | 0 => 0
  | k + 1 => 64 * nn C k + pl6 (C k)
theorem nn_lt (C : Nat → UInt8) (k : Nat) : nn C k < 64 ^ k := by
  induction k with
  | zero => exact Nat.one_pos
  | succ k ih => have := pl6_lt (C k); show 64 * nn C k + pl6 (C k) < _; rw [Nat.pow_succ]; omega
def cnt (C : Nat → UInt8) : Nat → Nat
  | 0 => 0
  | k + 1 => if C k = 61 then cnt C k + 1 else cnt C k
theorem cnt_le (C : Nat → UInt8) (k : Nat) : cnt C k ≤ k := by
  induction k with
  | zero => exact Nat.le_refl _
  | succ k ih => show (if C k = 61 then cnt C k + 1 else cnt C k) ≤ k + 1; split <;> omega
def b3 (n : Nat) : List UInt8 := [UInt8.ofNat (n / 65536), UInt8.ofNat (n / 256), UInt8.ofNat n]
theorem b3_take (n t : Nat) (ht : t < 3) : (b3 n).take (t + 1) = (b3 n).take t ++ [UInt8.ofNat (n / 2 ^ (16 - 8 * t))] := by
  rcases t with _ | _ | _ | t
  · rfl
  · rfl
  · simp [b3]
  · omega
def ub (l : List UInt8) (m : Nat) : List UInt8 := (b3 (nn (fun j => l.getD (4 * m + j) 0) 4)).take (3 - cnt (fun j => l.getD (4 * m + j) 0) 4)
def rub (l : List UInt8) : Nat → List UInt8
  | 0 => []
  | m + 1 => rub l m ++ ub l m
theorem rub_len (l : List UInt8) (m : Nat) : (rub l m).length ≤ 3 * m := by
  induction m with
  | zero => exact Nat.le_refl _
  | succ m ih =>
    have : (ub l m).length ≤ 3 := by unfold ub; rw [List.length_take]; exact Nat.min_le_right _ _
    simp only [rub, List.length_append]; omega
def rb64A (x : List UInt8) : List UInt8 := rb64 x ((x.length + 2) / 3)
set_option maxRecDepth 100000 in
set_option maxHeartbeats 1000000 in
theorem rub_any (l : List UInt8) (hl : l.length ≤ 1000000) (w : World) : Calls Tryd.prog 18 ([.string ⟨l.toArray⟩] : List Value).toArray w (RefR w (refU rb64A (rub l (l.length / 4)) l)) := by
  refine (enter tab_ok Tryd.func18 rfl Tryd.ntmps18 rfl (St.start w) (R := fun v w' => RefR w (refU rb64A (rub l (l.length / 4)) l) (.returned v) w') ?_).mono (fun e w' ⟨v, he, h⟩ => by rw [he]; exact h)
  have hs := size_mk l
  refine lp tab_ok (fun x : Nat × Sx.Own => 4 * x.1 ≤ l.length ∧ Rw 1 (rub l x.1).length x.2 (Lib.byteCells (rub l x.1))) (fun x => ⟨[(0, .string ⟨l.toArray⟩), (4, sv x.2 (rub l x.1).length), (5, .int .i64 (4 * x.1 : Nat))], [se x.2 (Lib.byteCells (rub l x.1)) 5], []⟩) (fun x => l.length - 4 * x.1)
    (0, none) ⟨Nat.zero_le _, Rw.nil 1⟩ ⟨⟨rfl, rfl, rfl, trivial⟩, .pad .nil, rfl⟩ ?_
  rintro ⟨m, r⟩ ⟨hm, hR⟩
  simp only at hm hR
  have hrl := rub_len l m
  refine .as ((4 * m + 3 : Nat) : Int) (by (try simp only); omega) (by simp only [mn]; omega) (by simp only [mx]; omega) ?_
  refine cd (fun h => ?_) (fun h => ?_)
  · have hlt : 4 * m + 3 < l.length := by rw [hs] at h; omega
    obtain ⟨C, hC⟩ : ∃ C : Nat → UInt8, C = fun j => l.getD (4 * m + j) 0 := ⟨_, rfl⟩
    have hx : rub l (m + 1) = rub l m ++ (b3 (nn C 4)).take (3 - cnt C 4) := by rw [hC]; rfl
    have hCk' : ∀ k, sgn ⟨l.toArray⟩ (4 * m + k) = C k := fun k => by rw [hC]; simp [sgn]
    clear hC
    refine lp tab_ok (fun k : Nat => k ≤ 4) (fun k => ⟨[(0, .string ⟨l.toArray⟩), (4, sv r (rub l m).length), (5, .int .i64 (4 * m : Nat)), (6, .int .i64 (nn C k : Nat)), (7, .int .i64 ((3 : Int) - (cnt C k : Nat))), (8, .int .i64 k)], [se r (Lib.byteCells (rub l m)) 5], []⟩) (fun k => 4 - k)
      0 (by omega) ⟨⟨rfl, rfl, rfl, rfl, rfl, rfl, trivial⟩, .cons .nil, rfl⟩ ?_
    intro k hk
    have hcl := cnt_le C k
    have hCk := hCk' k
    have hn1 := nn_lt C k
    have hn2 := nn_lt C (k + 1)
    have hp1 : (64 : Nat) ^ k ≤ 64 ^ 4 := Nat.pow_le_pow_right (by decide) hk
    refine cd (fun h4 => ?_) (fun h4 => ?_)
    · have hp2 : (64 : Nat) ^ (k + 1) ≤ 64 ^ 4 := Nat.pow_le_pow_right (by decide) (by omega)
      have hnn : nn C (k + 1) = 64 * nn C k + pl6 (C k) := rfl
      refine .as ((4 * m + k : Nat) : Int) (by (try simp only); omega) (by simp only [mn]; omega) (by simp only [mx]; omega) ?_
      refine chP (4 * m + k) rfl (by rw [hs]; omega) ?_
      refine cv (place6 _) ?_
      rw [hCk]
      have hr := firstIdx_range sixS (C k)
      have hz : sixS.size = 64 := rfl
      rw [hz] at hr
      refine cd (fun hneg => ?_) (fun hneg => ?_)
      · have hpl : pl6 (C k) = 0 := by unfold pl6; omega
        refine .as ((64 * nn C k : Nat) : Int) (by simp) (by simp only [mn]; omega) (by simp only [mx]; omega) ?_
        refine .as ((nn C (k + 1) : Nat) : Int) (by rw [hnn, hpl]; simp) (by simp only [mn]; omega) (by simp only [mx]; omega) ?_
        refine .as ((4 * m + k : Nat) : Int) (by (try simp only); omega) (by simp only [mn]; omega) (by simp only [mx]; omega) ?_
        refine chP (4 * m + k) rfl (by rw [hs]; omega) ?_
        rw [hCk]
        by_cases h61 : C k = 61
        · have hc2 : cnt C (k + 1) = cnt C k + 1 := if_pos h61
          refine ct ((u8_eq (C k) 61).trans (by simpa using h61)) ?_
          refine .as ((3 : Int) - (cnt C (k + 1) : Nat)) (by (try simp only); omega) (by simp only [mn]; omega) (by simp only [mx]; omega) ?_
          refine .as ((k + 1 : Nat) : Int) (by simp) (by simp only [mn]; omega) (by simp only [mx]; omega) ?_
          exact ⟨k + 1, by omega, by omega, ⟨⟨rfl, rfl, rfl, rfl, rfl, rfl, trivial⟩, .cons .nil, rfl⟩⟩
        · have hc2 : cnt C (k + 1) = cnt C k := if_neg h61
          refine cf ((u8_eq (C k) 61).trans (by simpa using h61)) ?_
          refine .as ((k + 1 : Nat) : Int) (by simp) (by simp only [mn]; omega) (by simp only [mx]; omega) ?_
          exact ⟨k + 1, by omega, by omega, ⟨⟨rfl, rfl, rfl, rfl, by show some (Value.int .i64 ((3 : Int) - (cnt C k : Nat))) = _; rw [hc2], rfl, trivial⟩, .cons .nil, rfl⟩⟩
      · have hpl : (pl6 (C k) : Int) = firstIdx sixS (C k) := by unfold pl6; omega
        refine .as ((64 * nn C k : Nat) : Int) (by simp) (by simp only [mn]; omega) (by simp only [mx]; omega) ?_
        refine .as ((nn C (k + 1) : Nat) : Int) (by rw [hnn, ← hpl]; simp) (by simp only [mn]; omega) (by simp only [mx]; omega) ?_
        refine .as ((4 * m + k : Nat) : Int) (by (try simp only); omega) (by simp only [mn]; omega) (by simp only [mx]; omega) ?_
        refine chP (4 * m + k) rfl (by rw [hs]; omega) ?_
        rw [hCk]
        by_cases h61 : C k = 61
        · have hc2 : cnt C (k + 1) = cnt C k + 1 := if_pos h61
          refine ct ((u8_eq (C k) 61).trans (by simpa using h61)) ?_
          refine .as ((3 : Int) - (cnt C (k + 1) : Nat)) (by (try simp only); omega) (by simp only [mn]; omega) (by simp only [mx]; omega) ?_
          refine .as ((k + 1 : Nat) : Int) (by simp) (by simp only [mn]; omega) (by simp only [mx]; omega) ?_
          exact ⟨k + 1, by omega, by omega, ⟨⟨rfl, rfl, rfl, rfl, rfl, rfl, trivial⟩, .cons .nil, rfl⟩⟩
        · have hc2 : cnt C (k + 1) = cnt C k := if_neg h61
          refine cf ((u8_eq (C k) 61).trans (by simpa using h61)) ?_
          refine .as ((k + 1 : Nat) : Int) (by simp) (by simp only [mn]; omega) (by simp only [mx]; omega) ?_
          exact ⟨k + 1, by omega, by omega, ⟨⟨rfl, rfl, rfl, rfl, by show some (Value.int .i64 ((3 : Int) - (cnt C k : Nat))) = _; rw [hc2], rfl, trivial⟩, .cons .nil, rfl⟩⟩
    · obtain rfl : k = 4 := by omega
      have h64 : (64 : Nat) ^ 4 = 16777216 := by decide
      generalize nn C 4 = N at *
      generalize cnt C 4 = q at *
      obtain ⟨X, hX⟩ : ∃ X : Nat → List UInt8, X = fun t => rub l m ++ (b3 N).take t := ⟨_, rfl⟩
      have hX0 : X 0 = rub l m := by rw [hX]; simp
      have hXs : ∀ t, t < 3 → X (t + 1) = X t ++ [UInt8.ofNat (N / 2 ^ (16 - 8 * t))] := fun t ht => by rw [hX]; show rub l m ++ _ = _; rw [b3_take N t ht, List.append_assoc]
      have hXl : ∀ t, (X t).length ≤ 3 * m + 3 := fun t => by rw [hX]; simp only [List.length_append, List.length_take]; have : (b3 N).length = 3 := rfl; omega
      have hXq : rub l (m + 1) = X (3 - q) := by rw [hX]; exact hx
      rw [← hX0] at hR
      refine lp tab_ok (fun x : Nat × Sx.Own => x.1 ≤ 3 - q ∧ Rw 1 (X x.1).length x.2 (Lib.byteCells (X x.1))) (fun x => ⟨[(0, .string ⟨l.toArray⟩), (4, sv x.2 (X x.1).length), (5, .int .i64 (4 * m : Nat)), (6, .int .i64 N), (7, .int .i64 ((3 : Int) - (q : Nat))), (10, .int .i64 x.1)], [se x.2 (Lib.byteCells (X x.1)) 5], []⟩) (fun x => 4 - x.1)
        (0, r) ⟨Nat.zero_le _, hR⟩ ⟨⟨rfl, by rw [hX0]; rfl, rfl, rfl, rfl, rfl, trivial⟩, by rw [hX0]; exact .cons .nil, rfl⟩ ?_
      clear hX
      rintro ⟨t, r⟩ ⟨ht, hR⟩
      simp only at ht hR
      have hl1 := hXl t
      refine cd (fun htq => ?_) (fun htq => ?_)
      · have ht3 : t < 3 - q := by (try simp only at htq); omega
        have hs1 := hXs t (by omega)
        refine .as ((8 * t : Nat) : Int) (by simp) (by simp only [mn]; omega) (by simp only [mx]; omega) ?_
        refine .as ((16 - 8 * t : Nat) : Int) (by (try simp only); omega) (by simp only [mn]; omega) (by simp only [mx]; omega) ?_
        refine .same (by simp only [mn]; omega) (by simp only [mx]; omega) ?_
        refine ⟨by omega, ?_⟩
        refine .to (((UInt8.ofNat (N / 2 ^ (16 - 8 * t))).toNat : Nat) : Int) (by
          show modk .u8 (Int.fdiv (N : Int) (2 ^ (min ((16 - 8 * t : Nat) : Int).toNat 64))) = _
          rw [shrN N (16 - 8 * t) (by omega), UInt8.toNat_ofNat']
          simp only [modk]
          omega) ?_
        refine .mk _ _ (bs1 _) (fun b' => ?_)
        refine ap 0 (news := Lib.byteCells [UInt8.ofNat (N / 2 ^ (16 - 8 * t))]) (m := 1) tab_ok rfl info5 rfl rfl hR (srcE (C := ⟨Tryd.prog, tab, 62, [], w, none⟩) (e' := 5) (tx := 22) (z := 1) rfl tab_ok (src 1 rfl rfl) rfl (one8 _)) (by (try simp only); omega) (by (try simp only); unfold maxLen; omega) (fun r' hR' => ?_)
        refine .as ((t + 1 : Nat) : Int) (by simp) (by simp only [mn]; omega) (by simp only [mx]; omega) ?_
        refine ⟨(t + 1, r'), ⟨by (try simp only); omega, ?_⟩, by (try simp only); omega, ⟨⟨rfl, ?_, rfl, rfl, rfl, rfl, trivial⟩, ?_, rfl⟩⟩
        · simp only [hs1, List.length_append, Lib.byteCells_append]; exact hR'
        · simp only [hs1, List.length_append]; rfl
        · simp only [hs1, Lib.byteCells_append]; exact .cons .nil
      · obtain rfl : t = 3 - q := by (try simp only at htq); omega
        refine .as ((4 * (m + 1) : Nat) : Int) (by (try simp only); omega) (by simp only [mn]; omega) (by simp only [mx]; omega) ?_
        refine ⟨(m + 1, r), ⟨by (try simp only); omega, ?_⟩, by (try simp only); omega, ⟨⟨rfl, ?_, rfl, trivial⟩, ?_, rfl⟩⟩
        · simp only [hXq]; exact hR
        · simp only [hXq]; rfl
        · simp only [hXq]; exact .cons .nil
  · obtain rfl : m = l.length / 4 := by rw [hs] at h; (try simp only at h); omega
    refine cvs (fun w' hs => rb64_any _ _ (Nat.le_trans hrl (by omega)) w' (Rd.own hs 0 rfl hR)) ?_
    have hne := list_beq (rb64A (rub l (l.length / 4))) l
    by_cases he : rb64A (rub l (l.length / 4)) = l
    · refine cf (by show (!_) = false; exact (congrArg not (hne.trans (decide_eq_true he)))) ?_
      refine ⟨fun w1 hs1 => ?_⟩
      show RefR w (refU rb64A (rub l (l.length / 4)) l) _ w1
      unfold refU; rw [if_pos he]
      exact ⟨hs1.below, r, rfl, hR, made_of hs1 rfl 0 rfl⟩
    · refine ct (by show (!_) = true; exact (congrArg not (hne.trans (decide_eq_false he)))) ?_
      refine ⟨fun w1 hs1 => ?_⟩
      show RefR w (refU rb64A (rub l (l.length / 4)) l) _ w1
      unfold refU; rw [if_neg he]
      exact ⟨hs1.below, rfl⟩
end Go.Proofs.YtcojgckfcgbodaaDoor
