/- strings.Repeat of "=", twice at most; coder.filled, Hex, Base64: the walks. -/
import Derived.Test.YtcojgckfcgbodaaDoorCdC
namespace Go.Proofs.YtcojgckfcgbodaaDoor
open Go.RowKit Go.Sx
set_option linter.unusedVariables false

abbrev VS (s : ByteArray) : Value := .string s
set_option maxRecDepth 100000 in
theorem mul64_12 (w : World) : Calls Tryd.prog 55 ([.int .u64 1, .int .u64 2] : List Value).toArray w fun e w' => e = .returned (.tuple #[.int .u64 0, .int .u64 2]) ∧ Below w.heap.size w w' := by
  refine enterV tab_ok Tryd.func55 rfl Tryd.ntmps55 rfl (St.start w) ?_
  refine ⟨by decide, ?_⟩
  refine ⟨by decide, ?_⟩
  refine .as 2 (by decide) (by decide) (by decide) ?_
  refine .as 0 (by decide) (by decide) (by decide) ?_
  refine ⟨by decide, ?_⟩
  refine .as 0 (by decide) (by decide) (by decide) ?_
  refine ⟨by decide, ?_⟩
  refine .as 0 (by decide) (by decide) (by decide) ?_
  refine .as 0 (by decide) (by decide) (by decide) ?_
  refine .as 0 (by decide) (by decide) (by decide) ?_
  refine .as 0 (by decide) (by decide) (by decide) ?_
  refine ⟨by decide, ?_⟩
  refine .as 0 (by decide) (by decide) (by decide) ?_
  refine .as 2 (by decide) (by decide) (by decide) ?_
  exact rt rfl
set_option maxRecDepth 100000 in
theorem mul_12 (w : World) : Calls Tryd.prog 44 ([.int .u64 1, .int .u64 2] : List Value).toArray w fun e w' => e = .returned (.tuple #[.int .u64 0, .int .u64 2]) ∧ Below w.heap.size w w' := by
  refine enterV tab_ok Tryd.func44 rfl Tryd.ntmps44 rfl (St.start w) ?_
  refine cf rfl ?_
  refine cv mul64_12 ?_
  exact rt rfl
set_option maxRecDepth 100000 in
theorem mul64_13 (w : World) : Calls Tryd.prog 55 ([.int .u64 1, .int .u64 3] : List Value).toArray w fun e w' => e = .returned (.tuple #[.int .u64 0, .int .u64 3]) ∧ Below w.heap.size w w' := by
  refine enterV tab_ok Tryd.func55 rfl Tryd.ntmps55 rfl (St.start w) ?_
  refine ⟨by decide, ?_⟩
  refine ⟨by decide, ?_⟩
  refine .as 3 (by decide) (by decide) (by decide) ?_
  refine .as 0 (by decide) (by decide) (by decide) ?_
  refine ⟨by decide, ?_⟩
  refine .as 0 (by decide) (by decide) (by decide) ?_
  refine ⟨by decide, ?_⟩
  refine .as 0 (by decide) (by decide) (by decide) ?_
  refine .as 0 (by decide) (by decide) (by decide) ?_
  refine .as 0 (by decide) (by decide) (by decide) ?_
  refine .as 0 (by decide) (by decide) (by decide) ?_
  refine ⟨by decide, ?_⟩
  refine .as 0 (by decide) (by decide) (by decide) ?_
  refine .as 3 (by decide) (by decide) (by decide) ?_
  exact rt rfl
set_option maxRecDepth 100000 in
theorem mul_13 (w : World) : Calls Tryd.prog 44 ([.int .u64 1, .int .u64 3] : List Value).toArray w fun e w' => e = .returned (.tuple #[.int .u64 0, .int .u64 3]) ∧ Below w.heap.size w w' := by
  refine enterV tab_ok Tryd.func44 rfl Tryd.ntmps44 rfl (St.start w) ?_
  refine cf rfl ?_
  refine cv mul64_13 ?_
  exact rt rfl
set_option maxRecDepth 100000 in
theorem pre61 (t : ByteArray) (h : 0 < t.size) (h2 : t.size ≤ 1000) (h0 : (t.extract 0 1).toList = (ByteArray.mk #[61]).toList) (w : World) : Calls Tryd.prog 45 ([VS t, VS ⟨#[61]⟩] : List Value).toArray w fun e w' => e = .returned (.bool true) ∧ Below w.heap.size w w' := by
  refine enterV tab_ok Tryd.func45 rfl Tryd.ntmps45 rfl (St.start w) ?_
  refine inl (C := ⟨Tryd.prog, tab, 8, [], w, none⟩) tab_ok Tryd.func56 rfl Tryd.ntmps56 rfl ?_
  have hge : decide ((t.size : Int) ≥ ((ByteArray.mk #[61]).size : Int)) = true := by
    apply decide_eq_true; show ((1 : Nat) : Int) ≤ _; omega
  have hb : (decide ((t.size : Int) ≥ ((ByteArray.mk #[61]).size : Int)) == true) = true := by rw [hge]; rfl
  refine ct hb ?_
  refine ct hb ?_
  refine ct hb ?_
  refine ct hb ?_
  refine ⟨.mk 0 1 t.size rfl rfl rfl (by decide) (by omega) (Nat.le_refl _) (by simp) ?_⟩
  refine ct hb ?_
  refine ct hb ?_
  refine ct hge ?_
  exact bk (rt (by show Value.bool ((t.extract 0 1).toList == (ByteArray.mk #[61]).toList) = _; rw [h0]; simp))
set_option maxRecDepth 100000 in
theorem pre61n (t : ByteArray) (h : 0 < t.size) (h2 : t.size ≤ 1000) (h0 : ((t.extract 0 1).toList == (ByteArray.mk #[61]).toList) = false) (w : World) : Calls Tryd.prog 45 ([VS t, VS ⟨#[61]⟩] : List Value).toArray w fun e w' => e = .returned (.bool false) ∧ Below w.heap.size w w' := by
  refine enterV tab_ok Tryd.func45 rfl Tryd.ntmps45 rfl (St.start w) ?_
  refine inl (C := ⟨Tryd.prog, tab, 8, [], w, none⟩) tab_ok Tryd.func56 rfl Tryd.ntmps56 rfl ?_
  have hge : decide ((t.size : Int) ≥ ((ByteArray.mk #[61]).size : Int)) = true := by
    apply decide_eq_true; show ((1 : Nat) : Int) ≤ _; omega
  have hb : (decide ((t.size : Int) ≥ ((ByteArray.mk #[61]).size : Int)) == true) = true := by rw [hge]; rfl
  refine ct hb ?_
  refine ct hb ?_
  refine ct hb ?_
  refine ct hb ?_
  refine ⟨.mk 0 1 t.size rfl rfl rfl (by decide) (by omega) (Nat.le_refl _) (by simp) ?_⟩
  refine ct hb ?_
  refine ct hb ?_
  refine ct hge ?_
  exact bk (rt (by show Value.bool ((t.extract 0 1).toList == (ByteArray.mk #[61]).toList) = _; rw [h0]))
set_option maxRecDepth 100000 in
/-- "=", so many times -/
theorem rep0 (w : World) : Calls Tryd.prog 36 ([VS ⟨#[61]⟩, .int .i64 0] : List Value).toArray w fun e w' => e = .returned (VS ⟨(List.replicate 0 61).toArray⟩) ∧ Below w.heap.size w w' := by
  refine enterV tab_ok Tryd.func36 rfl Tryd.ntmps36 rfl (St.start w) ?_
  refine ct rfl ?_
  exact rt rfl
set_option maxRecDepth 100000 in
theorem rep1 (w : World) : Calls Tryd.prog 36 ([VS ⟨#[61]⟩, .int .i64 1] : List Value).toArray w fun e w' => e = .returned (VS ⟨(List.replicate 1 61).toArray⟩) ∧ Below w.heap.size w w' := by
  refine enterV tab_ok Tryd.func36 rfl Tryd.ntmps36 rfl (St.start w) ?_
  refine cf rfl ?_
  refine ct rfl ?_
  exact rt rfl
set_option maxRecDepth 100000 in
theorem rep2 (w : World) : Calls Tryd.prog 36 ([VS ⟨#[61]⟩, .int .i64 2] : List Value).toArray w fun e w' => e = .returned (VS ⟨(List.replicate 2 61).toArray⟩) ∧ Below w.heap.size w w' := by
  refine enterV tab_ok Tryd.func36 rfl Tryd.ntmps36 rfl (St.start w) ?_
  refine cf rfl ?_
  refine cf rfl ?_
  refine cf rfl ?_
  refine .same (by decide) (by decide) ?_
  refine .same (by decide) (by decide) ?_
  refine cv mul_12 ?_
  refine ct rfl ?_
  refine ct rfl ?_
  refine cf rfl ?_
  refine cf rfl ?_
  refine .same (by decide) (by decide) ?_
  refine cf rfl ?_
  refine ⟨by decide, by decide, ?_⟩
  refine cf rfl ?_
  refine cf rfl ?_
  refine cf rfl ?_
  refine ct rfl ?_
  refine ct rfl ?_
  refine ct rfl ?_
  refine ct rfl ?_
  refine cv (pre61n _ (by decide) (by decide) (by kernel_rfl)) ?_
  refine ct rfl ?_
  refine cf rfl ?_
  refine ct rfl ?_
  refine ct rfl ?_
  refine cv (pre61n _ (by decide) (by decide) (by kernel_rfl)) ?_
  refine ct rfl ?_
  refine cf rfl ?_
  refine ct rfl ?_
  refine ct rfl ?_
  refine cv (pre61n _ (by decide) (by decide) (by kernel_rfl)) ?_
  refine ct rfl ?_
  refine cf rfl ?_
  refine ct rfl ?_
  refine ct rfl ?_
  refine cv (pre61 _ (by decide) (by decide) (by kernel_rfl)) ?_
  refine ct rfl ?_
  refine ct rfl ?_
  refine ⟨.mk 0 2 128 rfl rfl rfl (by decide) (by decide) (by decide) (by simp) ?_⟩
  exact rt (by rfl)
set_option maxRecDepth 100000 in
theorem rep3 (w : World) : Calls Tryd.prog 36 ([VS ⟨#[61]⟩, .int .i64 3] : List Value).toArray w fun e w' => e = .returned (VS ⟨(List.replicate 3 61).toArray⟩) ∧ Below w.heap.size w w' := by
  refine enterV tab_ok Tryd.func36 rfl Tryd.ntmps36 rfl (St.start w) ?_
  refine cf rfl ?_
  refine cf rfl ?_
  refine cf rfl ?_
  refine .same (by decide) (by decide) ?_
  refine .same (by decide) (by decide) ?_
  refine cv mul_13 ?_
  refine ct rfl ?_
  refine ct rfl ?_
  refine cf rfl ?_
  refine cf rfl ?_
  refine .same (by decide) (by decide) ?_
  refine cf rfl ?_
  refine ⟨by decide, by decide, ?_⟩
  refine cf rfl ?_
  refine cf rfl ?_
  refine cf rfl ?_
  refine ct rfl ?_
  refine ct rfl ?_
  refine ct rfl ?_
  refine ct rfl ?_
  refine cv (pre61n _ (by decide) (by decide) (by kernel_rfl)) ?_
  refine ct rfl ?_
  refine cf rfl ?_
  refine ct rfl ?_
  refine ct rfl ?_
  refine cv (pre61n _ (by decide) (by decide) (by kernel_rfl)) ?_
  refine ct rfl ?_
  refine cf rfl ?_
  refine ct rfl ?_
  refine ct rfl ?_
  refine cv (pre61n _ (by decide) (by decide) (by kernel_rfl)) ?_
  refine ct rfl ?_
  refine cf rfl ?_
  refine ct rfl ?_
  refine ct rfl ?_
  refine cv (pre61 _ (by decide) (by decide) (by kernel_rfl)) ?_
  refine ct rfl ?_
  refine ct rfl ?_
  refine ⟨.mk 0 3 128 rfl rfl rfl (by decide) (by decide) (by decide) (by simp) ?_⟩
  exact rt (by rfl)
set_option maxRecDepth 100000 in
theorem rep_any (n : Nat) (hn : n ≤ 3) (w : World) : Calls Tryd.prog 36 ([VS ⟨#[61]⟩, .int .i64 n] : List Value).toArray w fun e w' => e = .returned (VS ⟨(List.replicate n 61).toArray⟩) ∧ Below w.heap.size w w' := by
  rcases n with _ | _ | _ | _ | n
  · exact rep0 w
  · exact rep1 w
  · exact rep2 w
  · exact rep3 w
  · omega
theorem str_app (a b : List UInt8) : (⟨a.toArray⟩ : ByteArray) ++ ⟨b.toArray⟩ = ⟨(a ++ b).toArray⟩ := by
  apply ByteArray.ext
  show (ByteArray.append _ _).data = _
  simp [ByteArray.append]
def filledL (l : List UInt8) : List UInt8 := l ++ List.replicate ((4 - l.length % 4) % 4) 61
set_option maxRecDepth 100000 in
theorem filled_any (l : List UInt8) (hl : l.length ≤ 100000000) (w : World) : Calls Tryd.prog 26 ([VS ⟨l.toArray⟩] : List Value).toArray w fun e w' => e = .returned (VS ⟨(filledL l).toArray⟩) ∧ Below w.heap.size w w' := by
  have hr := fun w => rep_any ((4 - l.length % 4) % 4) (by omega) w
  refine enterV tab_ok Tryd.func26 rfl Tryd.ntmps26 rfl (St.start w) ?_
  have hs : (ByteArray.mk l.toArray).size = l.length := by simp [ByteArray.size]
  have e1 : 4 - ((ByteArray.mk l.toArray).size : Int) % 4 = ((4 - l.length % 4 : Nat) : Int) := by rw [hs]; omega
  refine ⟨by omega, by rw [hs]; simp only [mx]; omega, by decide, ?_⟩
  refine .as _ e1 (by simp only [mn]; omega) (by simp only [mx]; omega) ?_
  refine ⟨by omega, by simp only [mx]; omega, by decide, ?_⟩
  refine cv hr ?_
  refine ⟨by simp [ByteArray.size]; omega, ?_⟩
  exact rt (congrArg Value.string (str_app _ _))
def hexS : ByteArray := ⟨#[48, 49, 50, 51, 52, 53, 54, 55, 56, 57, 97, 98, 99, 100, 101, 102]⟩
def sixS : ByteArray := ⟨#[65, 66, 67, 68, 69, 70, 71, 72, 73, 74, 75, 76, 77, 78, 79, 80, 81, 82, 83, 84, 85, 86, 87, 88, 89, 90, 97, 98, 99, 100, 101, 102, 103, 104, 105, 106, 107, 108, 109, 110, 111, 112, 113, 114, 115, 116, 117, 118, 119, 120, 121, 122, 48, 49, 50, 51, 52, 53, 54, 55, 56, 57, 43, 47]⟩
set_option maxRecDepth 100000 in
theorem hexes_any (w : World) : Calls Tryd.prog 24 ([] : List Value).toArray w fun e w' => e = .returned (.agg #[.string hexS, .int .i64 4]) ∧ Below w.heap.size w w' := by
  refine enterV tab_ok Tryd.func24 rfl Tryd.ntmps24 rfl (St.start w) ?_
  intro b
  refine bu (c := #[.string hexS, .int .i64 4]) (by kernel_rfl) ?_
  refine sN 0 rfl rfl rfl ?_ (by kernel_rfl)
  refine ldN 0 rfl rfl ?_
  exact rt rfl
set_option maxRecDepth 100000 in
theorem sixes_any (w : World) : Calls Tryd.prog 27 ([] : List Value).toArray w fun e w' => e = .returned (.agg #[.string sixS, .int .i64 6]) ∧ Below w.heap.size w w' := by
  refine enterV tab_ok Tryd.func27 rfl Tryd.ntmps27 rfl (St.start w) ?_
  intro b
  refine bu (c := #[.string sixS, .int .i64 6]) (by kernel_rfl) ?_
  refine sN 0 rfl rfl rfl ?_ (by kernel_rfl)
  refine ldN 0 rfl rfl ?_
  exact rt rfl
set_option maxRecDepth 100000 in
theorem hex_any (v : Value) (bs : List UInt8) (hbs : bs.length ≤ 1000000) (w : World) (hv : Rd w v (Lib.byteCells bs)) : Calls Tryd.prog 8 ([v] : List Value).toArray w fun e w' => e = .returned (VS ⟨(codeL hexS 4 bs).toArray⟩) ∧ Below w.heap.size w w' := by
  refine enterV tab_ok Tryd.func8 rfl Tryd.ntmps8 rfl (St.start w) ?_
  refine cv hexes_any ?_
  refine cvs (fun w' hs => code_any hexS 4 (by decide) (by decide) v bs hbs w' (hv.below hs.below)) ?_
  exact rt rfl
theorem codeL_len (sg : ByteArray) (k : Nat) (hk : 3 ≤ k) (bs : List UInt8) : (codeL sg k bs).length = (8 * bs.length + k - 1) / k := by
  obtain ⟨hI, hh⟩ := csAll_lt sg k hk bs
  have hs := hI.sum
  have h1 : ∀ a r, r < k → a * k + r = 8 * bs.length → (if 0 < r then a + 1 else a) = (8 * bs.length + k - 1) / k := by
    intro a r hr he
    rw [← he]
    split
    · rw [show a * k + r + k - 1 = (r - 1) + k * (a + 1) by rw [Nat.mul_add, Nat.mul_comm k a]; omega, Nat.add_mul_div_left _ _ (by omega), Nat.div_eq_of_lt (by omega)]; omega
    · rw [show a * k + r + k - 1 = (k - 1) + k * a by rw [Nat.mul_comm k a]; omega, Nat.add_mul_div_left _ _ (by omega), Nat.div_eq_of_lt (by omega)]; omega
  rw [← h1 _ _ hh hs]
  unfold codeL
  split <;> simp
set_option maxRecDepth 100000 in
theorem base64_any (v : Value) (bs : List UInt8) (hbs : bs.length ≤ 1000000) (w : World) (hv : Rd w v (Lib.byteCells bs)) : Calls Tryd.prog 9 ([v] : List Value).toArray w fun e w' => e = .returned (VS ⟨(filledL (codeL sixS 6 bs)).toArray⟩) ∧ Below w.heap.size w w' := by
  have hlen := codeL_len sixS 6 (by decide) bs
  refine enterV tab_ok Tryd.func9 rfl Tryd.ntmps9 rfl (St.start w) ?_
  refine cv sixes_any ?_
  refine cvs (fun w' hs => code_any sixS 6 (by decide) (by decide) v bs hbs w' (hv.below hs.below)) ?_
  refine cv (filled_any _ (by omega)) ?_
  exact rt rfl
end Go.Proofs.YtcojgckfcgbodaaDoor
