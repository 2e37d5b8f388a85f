/- coder.decode: the bytes of signs: the walk. -/
import Derived.Test.YtcojgckfcgbodaaDoorCdE
namespace Go.Proofs.YtcojgckfcgbodaaDoor
open Go.RowKit Go.Sx
set_option linter.unusedVariables false

set_option maxRecDepth 100000 in
theorem ibs_call (s : ByteArray) (c : Nat) (w : World) : (callFunc 58 #[.string s, .int .u8 (c : Int)]).run Tryd.prog w = .ok (.value (.int .i64 (firstIdx s c.toUInt8))) w := by
  rw [run_callFunc_extern Tryd.func58 (by kernel_rfl) (by kernel_rfl) (by kernel_rfl) (e := Extern.BytealgIndexByte.indexByte) (by kernel_rfl), run_indexByte_string]
  rfl
set_option maxRecDepth 100000 in
theorem ib_any (s : ByteArray) (c : UInt8) (w : World) : Calls Tryd.prog 37 ([.string s, .int .u8 c.toNat] : List Value).toArray w fun e w' => e = .returned (.int .i64 (firstIdx s c)) ∧ Below w.heap.size w w' := by
  refine enterV tab_ok Tryd.func37 rfl Tryd.ntmps37 rfl (St.start w) ?_
  refine inl (C := ⟨Tryd.prog, tab, 8, [], w, none⟩) tab_ok Tryd.func49 rfl Tryd.ntmps49 rfl ?_
  refine extV rfl rfl rfl (fun w hs => ibs_call s c.toNat w) ?_
  exact bk (rt (by show Value.int .i64 (firstIdx s c.toNat.toUInt8) = _; simp))
def ErrV : Value := .iface 37 (.int .i64 1)
/-- how it stands, i signs on -/
def dsFr (b0 k : Nat) (sg l : ByteArray) (n i : Nat) (s : Cs) (r : Sx.Own) : Fr := [(1, .string l), (2, ptr b0), (6, sv r s.1.length), (7, .int .i64 s.2.1), (8, .int .i64 s.2.2), (19, .int .i64 n), (20, .int .i64 i)]
def dsL (sg : ByteArray) (b0 k : Nat) (s : Cs) (r : Sx.Own) : List Ent := [cl b0 #[.string sg, .int .i64 k] TA, se r (Lib.byteCells s.1) 5]
/-- what decode hands back: bytes in a row of its own, or an error -/
def DecR (w : World) (o : Option (List UInt8)) (e : Ending) (w' : World) : Prop := Below w.heap.size w w' ∧ match o with
  | none => e = .returned (.tuple #[.slice none 0 0, ErrV])
  | some x => ∃ r, e = .returned (.tuple #[sv r x.length, .nilIface]) ∧ Rw 1 x.length r (Lib.byteCells x) ∧ Made w w' r (Lib.byteCells x) 5
set_option maxRecDepth 100000 in
theorem decode_any (sg : ByteArray) (k : Nat) (hk : 3 ≤ k ∧ k ≤ 8) (hsg : sg.size = 2 ^ k) (l : List UInt8) (hl : l.length ≤ 1000000) (w : World) :
    Calls Tryd.prog 28 ([.agg #[.string sg, .int .i64 k], .string ⟨l.toArray⟩] : List Value).toArray w (DecR w (decL sg k l)) := by
  refine (enter tab_ok Tryd.func28 rfl Tryd.ntmps28 rfl (St.start w) (R := fun v w' => DecR w (decL sg k l) (.returned v) w') ?_).mono (fun e w' ⟨v, he, h⟩ => by rw [he]; exact h)
  intro b0
  have hs : (ByteArray.mk l.toArray).size = l.length := by simp [ByteArray.size]
  have hle : l.length * k ≤ 8000000 := by have := Nat.mul_le_mul hl hk.2; omega
  refine ld1 0 rfl rfl ?_
  refine .as ((l.length * k : Nat) : Int) (by rw [hs]; simp) (by simp only [mn]; omega) (by simp only [mx]; omega) ?_
  refine ⟨by omega, by simp only [mx]; omega, by decide, ?_⟩
  refine .mk 0 (l.length * k / 8) _ _ (fun w => madeU8 w und22 info5 0 (l.length * k / 8) (Nat.zero_le _) (by omega)) (fun b1 => ?_)
  refine lp tab_ok (fun x : Nat × Cs × Sx.Own => (x.1 ≤ l.length ∧ dsAll sg k l ([], 0, 0) = dsAll sg k (l.drop x.1) x.2.1) ∧ DsI k x.1 x.2.1 ∧ Rw 1 x.2.1.1.length x.2.2 (Lib.byteCells x.2.1.1)) (fun x => ⟨dsFr b0 k sg ⟨l.toArray⟩ l.length x.1 x.2.1 x.2.2, dsL sg b0 k x.2.1 x.2.2, []⟩) (fun x => l.length - x.1)
    (0, ([], 0, 0), some (b1, l.length * k / 8, List.replicate (l.length * k / 8) (.int .u8 0))) ⟨⟨Nat.zero_le _, rfl⟩, ⟨Nat.one_pos, rfl, Nat.zero_lt_succ 7⟩, ⟨rfl, Nat.zero_le _, by unfold maxLen; omega, by simp [Lib.byteCells]⟩⟩ ⟨⟨rfl, rfl, rfl, rfl, rfl, congrArg (fun n : Nat => some (Value.int .i64 n)) hs, rfl, trivial⟩, .cons (.cons .nil), rfl⟩ ?_
  rintro ⟨i, s, r⟩ ⟨⟨hi, hd⟩, hI, hR⟩
  simp only at hi hd hI hR
  have hb1 := hI.bits
  have hsum := hI.sum
  have hlt8 := hI.lt
  have hki : k * i ≤ 8000000 := by have := Nat.mul_le_mul hk.2 (Nat.le_trans hi hl); omega
  refine cd (fun h => ?_) (fun h => ?_)
  · have hlt : i < l.length := by (try simp only at h); omega
    have hcons := drop_cons hlt
    have hsgn : sgn ⟨l.toArray⟩ i = l[i] := by simp [sgn, hlt]
    rw [hcons] at hd
    refine dr [cl b0 #[.string sg, .int .i64 k] TA] 99 (.t 0 (.t 1 (.t 2 (.t 3 (.t 4 (.t 5 (.t 6 .nil))))))) tab_ok mixed_ok (by kernel_rfl) (.cons .nil) ?_
    refine ld1 0 rfl rfl ?_
    refine chP i rfl (by rw [hs]; exact hlt) ?_
    refine cz (ib_any sg _) ?_
    rw [← hsgn] at hd
    clear hsgn hcons
    generalize sgn ⟨l.toArray⟩ i = c at *
    have hfi := firstIdx_eq sg c
    cases hix : idxO sg c with
    | none =>
      rw [hix] at hfi
      have hnone : decL sg k l = none := by
        unfold decL; rw [hd]; unfold dsAll; rw [hix]; rfl
      refine ct (by rw [hfi]; rfl) ?_
      refine ⟨fun w1 hs1 => ?_⟩
      show DecR w (decL sg k l) _ w1
      rw [hnone]; exact ⟨hs1.below, rfl⟩
    | some j =>
      rw [hix] at hfi
      simp only at hfi
      obtain ⟨hj, _⟩ := idxO_lt hix
      have hd2 : dsAll sg k l ([], 0, 0) = dsAll sg k (l.drop (i + 1)) (ds1 k s j) := by rw [hd]; show (match idxO sg c with | some j => _ | none => none) = _; rw [hix]
      have hI2 := hI.step (j := j) (by omega) hk.2
      have p1 : (2 : Nat) ^ s.2.2 ≤ 2 ^ 7 := Nat.pow_le_pow_right (by decide) (by omega)
      have p2 : (2 : Nat) ^ k ≤ 2 ^ 8 := Nat.pow_le_pow_right (by decide) hk.2
      have p3 : s.2.1 * 2 ^ k ≤ 2 ^ 7 * 2 ^ 8 := Nat.mul_le_mul (by omega) p2
      have hor : bitI .or .i64 ((s.2.1 * 2 ^ k : Nat) : Int) ((j : Nat) : Int) = ((s.2.1 * 2 ^ k + j : Nat) : Int) := by rw [orN _ _ (by omega) (by omega)]; exact congrArg Nat.cast (or_add s.2.1 j k (by omega))
      refine cf (by rw [hfi]; exact decide_eq_false (by omega)) ?_
      refine dr [cl b0 #[.string sg, .int .i64 k] TA] 99 (.t 0 (.t 1 (.t 2 (.t 3 (.t 4 (.t 5 (.t 6 (.t 7 (.t 8 (.t 9 (.t 10 (.t 11 .nil)))))))))))) tab_ok mixed_ok (by kernel_rfl) (.cons .nil) ?_
      refine ld1 0 rfl rfl ?_
      refine ⟨by (try simp only); omega, ?_⟩
      refine .as ((s.2.1 * 2 ^ k : Nat) : Int) (shlN _ _ (by omega)) (by simp only [mn]; omega) (by simp only [mx]; omega) ?_
      refine ld1 0 rfl rfl ?_
      refine .as ((s.2.2 + k : Nat) : Int) (by simp) (by simp only [mn]; omega) (by simp only [mx]; omega) ?_
      refine cd (fun h8 => ?_) (fun h8 => ?_)
      · have h8' : 8 ≤ s.2.2 + k := by (try simp only at h8); omega
        have e1 : ds1 k s j = (s.1 ++ [UInt8.ofNat ((s.2.1 * 2 ^ k + j) / 2 ^ (s.2.2 + k - 8))], (s.2.1 * 2 ^ k + j) % 2 ^ (s.2.2 + k - 8), s.2.2 + k - 8) := if_pos h8'
        have p4 : (2 : Nat) ^ (s.2.2 + k - 8) ≤ 2 ^ 7 := Nat.pow_le_pow_right (by decide) (by omega)
        have p5 : 0 < (2 : Nat) ^ (s.2.2 + k - 8) := Nat.two_pow_pos _
        have hand : bitI .and .i64 (bitI .or .i64 ((s.2.1 * 2 ^ k : Nat) : Int) (firstIdx sg c)) ((2 ^ (s.2.2 + k - 8) - 1 : Nat) : Int) = (((s.2.1 * 2 ^ k + j) % 2 ^ (s.2.2 + k - 8) : Nat) : Int) := by
          rw [hfi, hor, andN _ _ (by omega) (by omega), Nat.and_two_pow_sub_one_eq_mod]
        rw [e1] at hd2 hI2
        refine .as ((s.2.2 + k - 8 : Nat) : Int) (by (try simp only); omega) (by simp only [mn]; omega) (by simp only [mx]; omega) ?_
        refine ⟨by (try simp only); omega, ?_⟩
        refine .to (((UInt8.ofNat ((s.2.1 * 2 ^ k + j) / 2 ^ (s.2.2 + k - 8))).toNat : Nat) : Int) ?_ ?_
        · show modk .u8 (Int.fdiv (bitI .or .i64 ((s.2.1 * 2 ^ k : Nat) : Int) (firstIdx sg c)) _) = _
          rw [hfi, hor]
          have := shrN (s.2.1 * 2 ^ k + j) (s.2.2 + k - 8) (by omega)
          simp only [modk]
          erw [this]
          simp
        refine .mk _ _ (bs1 _) (fun b' => ?_)
        refine ap 1 (news := [.int .u8 ((UInt8.ofNat ((s.2.1 * 2 ^ k + j) / 2 ^ (s.2.2 + k - 8))).toNat : Nat)]) (m := 1) tab_ok rfl info5 rfl rfl hR (srcE (C := ⟨Tryd.prog, tab, 69, [], w, none⟩) (e' := 5) (tx := 22) (z := 1) rfl tab_ok (src 2 rfl rfl) rfl (by simp [Value.oneCell'])) (by (try simp only); omega) (by (try simp only); unfold maxLen; omega) (fun r' hR' => ?_)
        refine ⟨by (try simp only); omega, ?_⟩
        refine .as ((2 ^ (s.2.2 + k - 8) : Nat) : Int) (by have := shlN 1 (s.2.2 + k - 8) (by omega); simpa [IntKind.bits] using this) (by simp only [mn]; omega) (by simp only [mx]; omega) ?_
        refine .as ((2 ^ (s.2.2 + k - 8) - 1 : Nat) : Int) (by (try simp only); omega) (by simp only [mn]; omega) (by simp only [mx]; omega) ?_
        refine .as ((i + 1 : Nat) : Int) (by simp) (by simp only [mn]; omega) (by simp only [mx]; omega) ?_
        refine ⟨(i + 1, (s.1 ++ [UInt8.ofNat ((s.2.1 * 2 ^ k + j) / 2 ^ (s.2.2 + k - 8))], (s.2.1 * 2 ^ k + j) % 2 ^ (s.2.2 + k - 8), s.2.2 + k - 8), r'), ⟨⟨by (try simp only); omega, hd2⟩, hI2, ?_⟩, by (try simp only); omega, ⟨⟨rfl, rfl, ?_, congrArg (fun z => some (Value.int .i64 z)) hand, rfl, rfl, rfl, trivial⟩, ?_, rfl⟩⟩
        · simp only [List.length_append, Lib.byteCells_append]; exact hR'
        · simp only [List.length_append, List.length_singleton]; rfl
        · simp only [dsL, Lib.byteCells_append]; exact .cons (.cons .nil)
      · have h8' : ¬ 8 ≤ s.2.2 + k := by (try simp only at h8); omega
        have e1 : ds1 k s j = (s.1, s.2.1 * 2 ^ k + j, s.2.2 + k) := if_neg h8'
        rw [e1] at hd2 hI2
        refine .as ((i + 1 : Nat) : Int) (by simp) (by simp only [mn]; omega) (by simp only [mx]; omega) ?_
        refine ⟨(i + 1, (s.1, s.2.1 * 2 ^ k + j, s.2.2 + k), r), ⟨⟨by (try simp only); omega, hd2⟩, hI2, hR⟩, by (try simp only); omega, ⟨⟨rfl, rfl, rfl, congrArg (fun z => some (Value.int .i64 z)) (by rw [hfi]; exact hor), rfl, rfl, rfl, trivial⟩, .cons (.cons .nil), rfl⟩⟩
  · have hdone : dsAll sg k l ([], 0, 0) = some s := by
      rw [hd, show l.drop i = [] from List.drop_eq_nil_of_le (by (try simp only at h); omega)]; rfl
    have hdec : decL sg k l = if k ≤ s.2.2 ∨ s.2.1 ≠ 0 then none else some s.1 := by unfold decL; rw [hdone]; rfl
    refine ld1 0 rfl rfl ?_
    by_cases h1 : (s.2.2 : Int) ≥ (k : Int)
    · have e1 := decide_eq_true h1
      have e2 : (decide ((s.2.2 : Int) ≥ (k : Int)) == false) = false := by rw [e1]; rfl
      refine cf e2 ?_
      refine cf e2 ?_
      refine ct e1 ?_
      refine ct rfl ?_
      refine ⟨fun w1 hs1 => ?_⟩
      show DecR w (decL sg k l) _ w1
      rw [hdec, if_pos (.inl (by omega))]; exact ⟨hs1.below, rfl⟩
    · have e1 := decide_eq_false h1
      have e2 : (decide ((s.2.2 : Int) ≥ (k : Int)) == false) = true := by rw [e1]; rfl
      refine ct e2 ?_
      refine ct e2 ?_
      refine cf e1 ?_
      refine cne (fun h0 => ?_) (fun h0 => ?_)
      · refine ⟨fun w1 hs1 => ?_⟩
        show DecR w (decL sg k l) _ w1
        rw [hdec, if_pos (.inr (by (try simp only at h0); omega))]; exact ⟨hs1.below, rfl⟩
      · refine ⟨fun w1 hs1 => ?_⟩
        show DecR w (decL sg k l) _ w1
        rw [hdec, if_neg (by (try simp only at h0); omega)]
        exact ⟨hs1.below, r, rfl, hR, made_of hs1 rfl 1 rfl⟩
end Go.Proofs.YtcojgckfcgbodaaDoor
