/- The reference's bytes of hexadecimal figures: the walk. -/
import Derived.Test.YtcojgckfcgbodaaDoorCdT
namespace Go.Proofs.YtcojgckfcgbodaaDoor
open Go.RowKit Go.Sx
set_option linter.unusedVariables false

/-- a byte of two figures, as the reference has it -/
def hb2 (x y : UInt8) : UInt8 := UInt8.ofNat ((16 * firstIdx hexS x + firstIdx hexS y) % 256).toNat
def runhex (l : List UInt8) : Nat → List UInt8
  | 0 => []
  | m + 1 => runhex l m ++ [hb2 (l.getD (2 * m) 0) (l.getD (2 * m + 1) 0)]
theorem runhex_len (l : List UInt8) (m : Nat) : (runhex l m).length = m := by
  induction m with
  | zero => rfl
  | succ m ih => simp [runhex, ih]
theorem firstIdx_range (sg : ByteArray) (c : UInt8) : -1 ≤ firstIdx sg c ∧ firstIdx sg c < sg.size + 1 := by
  rw [firstIdx_eq]
  cases h : idxO sg c with
  | none => simp only; omega
  | some j => have := (idxO_lt h).1; simp only; omega
/-- what the reference hands back: bytes in a row of its own and true, or nil and false -/
def RefR (w : World) (o : Option (List UInt8)) (e : Ending) (w' : World) : Prop := Below w.heap.size w w' ∧ match o with
  | none => e = .returned (.tuple #[.slice none 0 0, .bool false])
  | some x => ∃ r, e = .returned (.tuple #[sv r x.length, .bool true]) ∧ Rw 1 x.length r (Lib.byteCells x) ∧ Made w w' r (Lib.byteCells x) 5
def refU (f : List UInt8 → List UInt8) (x l : List UInt8) : Option (List UInt8) := if f x = l then some x else none
set_option maxRecDepth 100000 in
theorem runhex_any (l : List UInt8) (hl : l.length ≤ 1000000) (w : World) : Calls Tryd.prog 17 ([.string ⟨l.toArray⟩] : List Value).toArray w (RefR w (refU rhexL (runhex l (l.length / 2)) l)) := by
  refine (enter tab_ok Tryd.func17 rfl Tryd.ntmps17 rfl (St.start w) (R := fun v w' => RefR w (refU rhexL (runhex l (l.length / 2)) l) (.returned v) w') ?_).mono (fun e w' ⟨v, he, h⟩ => by rw [he]; exact h)
  have hs := size_mk l
  refine lp tab_ok (fun x : Nat × Sx.Own => 2 * x.1 ≤ l.length ∧ Rw 1 x.1 x.2 (Lib.byteCells (runhex l x.1))) (fun x => ⟨[(0, .string ⟨l.toArray⟩), (4, sv x.2 x.1), (5, .int .i64 (2 * x.1 : Nat))], [se x.2 (Lib.byteCells (runhex l x.1)) 5], []⟩) (fun x => l.length - 2 * x.1)
    (0, none) ⟨Nat.zero_le _, Rw.nil 1⟩ ⟨⟨rfl, rfl, rfl, trivial⟩, .pad .nil, rfl⟩ ?_
  rintro ⟨m, r⟩ ⟨hm, hR⟩
  simp only at hm hR
  refine .as ((2 * m + 1 : Nat) : Int) (by (try simp only); omega) (by simp only [mn]; omega) (by simp only [mx]; omega) ?_
  refine cd (fun h => ?_) (fun h => ?_)
  · have hlt : 2 * m + 1 < l.length := by rw [hs] at h; omega
    have r1 := firstIdx_range hexS (sgn ⟨l.toArray⟩ (2 * m))
    have r2 := firstIdx_range hexS (sgn ⟨l.toArray⟩ (2 * m + 1))
    have hz : hexS.size = 16 := rfl
    rw [hz] at r1 r2
    have g1 : sgn ⟨l.toArray⟩ (2 * m) = l.getD (2 * m) 0 := by simp [sgn]
    have g2 : sgn ⟨l.toArray⟩ (2 * m + 1) = l.getD (2 * m + 1) 0 := by simp [sgn]
    have hx : runhex l (m + 1) = runhex l m ++ [hb2 (sgn ⟨l.toArray⟩ (2 * m)) (sgn ⟨l.toArray⟩ (2 * m + 1))] := by rw [g1, g2]; rfl
    refine dr [] 99 (.t 0 (.t 1 (.t 2 (.t 3 (.t 4 (.t 5 (.t 6 (.t 7 (.t 8 (.t 9 (.t 10 (.t 11 (.t 12 (.n 13 (.n 14 (.n 15 .nil)))))))))))))))) tab_ok mixed_ok (by kernel_rfl) .nil ?_
    refine chP (2 * m) rfl (by rw [hs]; omega) ?_
    refine cz (place4 _) ?_
    refine .same (by simp only [mn]; omega) (by simp only [mx]; omega) ?_
    refine .as ((2 * m + 1 : Nat) : Int) (by (try simp only); omega) (by simp only [mn]; omega) (by simp only [mx]; omega) ?_
    refine chP (2 * m + 1) rfl (by rw [hs]; omega) ?_
    refine cz (place4 _) ?_
    refine .same (by simp only [mn]; omega) (by simp only [mx]; omega) ?_
    refine .to (((hb2 (sgn ⟨l.toArray⟩ (2 * m)) (sgn ⟨l.toArray⟩ (2 * m + 1))).toNat : Nat) : Int) (by
      unfold hb2
      rw [UInt8.toNat_ofNat']
      simp only [modk]
      omega) ?_
    refine .mk _ _ (bs1 _) (fun b' => ?_)
    refine ⟨.nil, ?_⟩
    refine ap 0 (news := Lib.byteCells [hb2 (sgn ⟨l.toArray⟩ (2 * m)) (sgn ⟨l.toArray⟩ (2 * m + 1))]) (m := 1) tab_ok rfl info5 rfl rfl hR (srcE (C := ⟨Tryd.prog, tab, 33, [], w, none⟩) (e' := 5) (tx := 22) (z := 1) rfl tab_ok (src 1 rfl rfl) rfl (one8 _)) (by (try simp only); omega) (by (try simp only); unfold maxLen; omega) (fun r' hR' => ?_)
    refine ⟨.nil, ⟨.nil, ?_⟩⟩
    refine .as ((2 * (m + 1) : Nat) : Int) (by (try simp only); omega) (by simp only [mn]; omega) (by simp only [mx]; omega) ?_
    refine ⟨(m + 1, r'), ⟨by (try simp only); omega, ?_⟩, by (try simp only); omega, ⟨⟨rfl, rfl, rfl, trivial⟩, ?_, rfl⟩⟩
    · simp only [hx, Lib.byteCells_append]; exact hR'
    · simp only [hx, Lib.byteCells_append]; exact .cons .nil
  · obtain rfl : m = l.length / 2 := by rw [hs] at h; (try simp only at h); omega
    have hlen := runhex_len l (l.length / 2)
    refine cvs (fun w' hs => rhex_any _ _ (by rw [hlen]; omega) w' (Rd.own hs 0 rfl hR)) ?_
    have hne := list_beq (rhexL (runhex l (l.length / 2))) l
    by_cases he : rhexL (runhex l (l.length / 2)) = l
    · refine cf (by show (!_) = false; rw [hne, decide_eq_true he]; rfl) ?_
      refine ⟨fun w1 hs1 => ?_⟩
      show RefR w (refU rhexL (runhex l (l.length / 2)) l) _ w1
      unfold refU; rw [if_pos he]
      exact ⟨hs1.below, r, by rw [hlen]; rfl, by rw [hlen]; exact hR, made_of hs1 rfl 0 rfl⟩
    · refine ct (by show (!_) = true; rw [hne, decide_eq_false he]; rfl) ?_
      refine ⟨fun w1 hs1 => ?_⟩
      show RefR w (refU rhexL (runhex l (l.length / 2)) l) _ w1
      unfold refU; rw [if_neg he]
      exact ⟨hs1.below, rfl⟩
end Go.Proofs.YtcojgckfcgbodaaDoor
