/- The law CoderJoins: the walk. -/
import Derived.Test.YtcojgckfcgbodaaCdP
namespace Go.Proofs.Ytcojgckfcgbodaa
open Go.RowKit Go.Sx
set_option linter.unusedVariables false

theorem bsl (n : Nat) (parts : Array (Nat × Value)) (cells : Array Value) (w : World) (hn : n ≠ 0) (h1 : n ≤ 1000) (hf : Instr.fill (fun i => some (i * 1, 1)) ((Array.range (n * 1)).map ((Value.int .u8 0).cells[· % (Value.int .u8 0).cells.size]!)) parts.toList = some cells) :
    (Instr.buildSlice 22 n parts).run Try.prog w = .ok (.slice (some ⟨w.heap.size, 0, none⟩) n n) (w.alloc (.cells cells 5)) := by
  obtain ⟨i, hi, hz, hs, hb⟩ := infoOf info5
  exact run_buildSlice w _ _ n _ cells i (.int .u8 0) und22 hi hz (by rw [hs]; omega) (by rw [hs]; omega) (by rw [hs]; exact hf)
theorem bsl0 (w : World) : (Instr.buildSlice 22 0 #[]).run Try.prog w = .ok (.slice (some ⟨w.heap.size, 0, none⟩) 0 0) (w.alloc (.cells #[] 5)) := by
  obtain ⟨i, hi, hz, hs, hb⟩ := infoOf info5
  simp [Instr.buildSlice, run_underlying und22, sizeOf, typeInfo, hi, newRow, Instr.fill]
  exact congrArg (fun c => w.alloc (.cells c 5)) (Array.ext' (by simp))
theorem one8 (l : List UInt8) : ∀ u ∈ Lib.byteCells l, u.oneCell' = true := by
  intro u hu
  obtain ⟨b, _, rfl⟩ := List.mem_map.1 hu
  rfl
set_option maxRecDepth 100000 in
theorem alive_any (w : World) : Calls Try.prog 4 ([] : List Value).toArray w fun e w' => e = .returned (.bool true) ∧ Below w.heap.size w w' := by
  refine enterV tab_ok Try.func4 rfl Try.ntmps4 rfl (St.start w) ?_
  refine .mk _ _ (fun w => bsl 2 _ #[.int .u8 0, .int .u8 171] w (by decide) (by decide) (by kernel_rfl)) (fun b => ?_)
  refine cvs (fun w' hs => hex_any _ [0, 171] (by decide) w' (Rd.ent hs 0 rfl rfl rfl)) ?_
  have t1 : ((⟨(codeL hexS 4 [0, 171]).toArray⟩ : ByteArray).toList == (ByteArray.mk #[48, 48, 97, 98]).toList) = true := by kernel_rfl
  have t1' : (((⟨(codeL hexS 4 [0, 171]).toArray⟩ : ByteArray).toList == (ByteArray.mk #[48, 48, 97, 98]).toList) == true) = true := by rw [t1]; rfl
  refine ct t1' ?_
  refine .mk _ _ (fun w => bsl 1 _ #[.int .u8 97] w (by decide) (by decide) (by kernel_rfl)) (fun b2 => ?_)
  refine ct t1' ?_
  refine cvB 1 und22 (by kernel_rfl) rfl ?_
  refine ct t1' ?_
  refine cvs (fun w' hs => base64_any _ [97] (by decide) w' (Rd.ent hs 1 rfl rfl rfl)) ?_
  refine ct t1' ?_
  refine ct t1 ?_
  have t2 : ((⟨(filledL (codeL sixS 6 [97])).toArray⟩ : ByteArray).toList == (ByteArray.mk #[89, 81, 61, 61]).toList) = true := by kernel_rfl
  have t2' : (((⟨(filledL (codeL sixS 6 [97])).toArray⟩ : ByteArray).toList == (ByteArray.mk #[89, 81, 61, 61]).toList) == true) = true := by rw [t2]; rfl
  refine ct t2' ?_
  refine .mk _ _ (fun w => bsl 3 _ #[.int .u8 97, .int .u8 98, .int .u8 99] w (by decide) (by decide) (by kernel_rfl)) (fun b3 => ?_)
  refine ct t2' ?_
  refine cvB 2 und22 (by kernel_rfl) rfl ?_
  refine ct t2' ?_
  refine cvs (fun w' hs => base64_any _ [97, 98, 99] (by decide) w' (Rd.ent hs 2 rfl rfl rfl)) ?_
  refine ct t2' ?_
  refine ct t2 ?_
  exact rt (by have t3 : ((⟨(filledL (codeL sixS 6 [97, 98, 99])).toArray⟩ : ByteArray).toList == (ByteArray.mk #[89, 87, 74, 106]).toList) = true := by kernel_rfl
               exact congrArg Value.bool t3)
/-- a copy of some bytes behind others of one's own -/
theorem cut_eq (l : List UInt8) (k : Nat) : (Lib.byteCells l).take k = Lib.byteCells (l.take k) := by simp [Lib.byteCells, List.map_take]
theorem Rd.take {w : World} {a : Option Addr} {n c k : Nat} {l : List UInt8} (h : Rd w (.slice a n c) (Lib.byteCells l)) (hn : n = l.length) (hk : k ≤ n) (c' : Nat) : Rd w (.slice a k c') (Lib.byteCells (l.take k)) := by
  obtain ⟨a0, c0, e, h1⟩ := h
  injection e with e1 e2 e3
  subst e1
  refine ⟨a, c', by rw [Lib.byteCells_length, List.length_take, Nat.min_eq_left (by omega)], fun hx => ?_⟩
  obtain ⟨b, o, ha, hb, hc⟩ := h1 (by intro h0; apply hx; rw [← cut_eq, h0]; simp)
  refine ⟨b, o, ha, hb, fun j u hu => ?_⟩
  rw [← cut_eq] at hu
  rw [List.getElem?_take] at hu
  split at hu
  · exact hc j u hu
  · cases hu
set_option maxRecDepth 100000 in
set_option maxHeartbeats 1000000 in
theorem law_joins (va vb : Option Addr) (a b : List UInt8) (ca cb : Nat) (hca : a.length ≤ ca) (sa : ∀ x, va = some x → x.spot = none) (w : World) (ha : Rd w (.slice va a.length ca) (Lib.byteCells a)) (hb : Rd w (.slice vb b.length cb) (Lib.byteCells b)) (hma : a.length ≤ maxLen) (hmb : b.length ≤ maxLen) :
    Calls Try.prog 3 ([.slice va a.length ca, .slice vb b.length cb] : List Value).toArray w fun e w' => e = .returned (.bool true) ∧ Below w.heap.size w w' := by
  refine enterV tab_ok Try.func3 rfl Try.ntmps3 rfl (St.start w) ?_
  refine cv alive_any ?_
  refine cf rfl ?_
  by_cases hla : (a.length : Int) > 1000
  · have e1 := decide_eq_true hla
    have e2 : (decide ((a.length : Int) > 1000) == false) = false := by rw [e1]; rfl
    refine cf e2 ?_
    refine cf e2 ?_
    refine cf e2 ?_
    refine ct e1 ?_
    refine ct rfl ?_
    exact rt rfl
  have e1 := decide_eq_false hla
  have e2 : (decide ((a.length : Int) > 1000) == false) = true := by rw [e1]; rfl
  refine ct e2 ?_
  refine ct e2 ?_
  refine ct e2 ?_
  refine cf e1 ?_
  refine cd (fun hlb => ?_) (fun hlb => ?_)
  · exact rt rfl
  have ha1 : a.length ≤ 1000 := by omega
  have hb1 : b.length ≤ 1000 := by omega
  have oa := one8 a
  have ob := one8 b
  refine .mk _ _ (fun w => bsl0 w) (fun b1 => ?_)
  refine ap (r := some (b1, 0, [])) (xs := []) (n := 0) (m := (Lib.byteCells a).length) (news := Lib.byteCells a) 0 tab_ok rfl info5 rfl rfl ⟨rfl, Nat.le_refl _, Nat.zero_le _, rfl⟩ (fun w' hs => (ha.below hs.below).src und22 oa) (by rw [Lib.byteCells_length]; omega) (by rw [Lib.byteCells_length]; unfold maxLen; omega) (fun r1 hR1 => ?_)
  refine ap (xs := Lib.byteCells a) (m := (Lib.byteCells b).length) (news := Lib.byteCells b) 0 tab_ok rfl info5 rfl rfl hR1 (fun w' hs => (hb.below hs.below).src und22 ob) (by simp only [Lib.byteCells_length]; omega) (by simp only [Lib.byteCells_length]; unfold maxLen; omega) (fun r2 hR2 => ?_)
  refine ⟨by omega, by simp only [mx]; omega, by decide, ?_⟩
  refine .as ((a.length / 3 * 3 : Nat) : Int) (by (try simp only); omega) (by simp only [mn]; omega) (by simp only [mx]; omega) ?_
  refine slTo sa (by omega) hca ?_
  have ht := Rd.take (k := a.length / 3 * 3) ha rfl (by omega) ca
  have htl : (a.take (a.length / 3 * 3)).length = a.length / 3 * 3 := by rw [List.length_take]; omega
  generalize a.take (a.length / 3 * 3) = th at *
  have ot := one8 th
  refine .mk _ _ (fun w => bsl0 w) (fun b3 => ?_)
  refine ap (r := some (b3, 0, [])) (xs := []) (n := 0) (m := (Lib.byteCells th).length) (news := Lib.byteCells th) 1 tab_ok rfl info5 rfl rfl ⟨rfl, Nat.le_refl _, Nat.zero_le _, rfl⟩ (fun w' hs => (ht.below hs.below).src und22 ot) (by rw [Lib.byteCells_length]; omega) (by rw [Lib.byteCells_length]; unfold maxLen; omega) (fun r3 hR3 => ?_)
  refine ap (xs := Lib.byteCells th) (m := (Lib.byteCells b).length) (news := Lib.byteCells b) 1 tab_ok rfl info5 rfl rfl hR3 (fun w' hs => (hb.below hs.below).src und22 ob) (by simp only [Lib.byteCells_length]; omega) (by simp only [Lib.byteCells_length]; unfold maxLen; omega) (fun r4 hR4 => ?_)
  have tl : th.length % 3 = 0 := by omega
  refine cvs (fun w' hs => hex_any _ (a ++ b) (by rw [List.length_append]; omega) w' (by have h := Rd.own hs 0 rfl hR2; simpa only [List.nil_append, ← Lib.byteCells_append] using h)) ?_
  refine cvs (fun w' hs => hex_any _ a (by omega) w' (ha.below hs.below)) ?_
  refine cvs (fun w' hs => hex_any _ b (by omega) w' (hb.below hs.below)) ?_
  have l1 := codeL_len hexS 4 (by decide) a
  have l2 := codeL_len hexS 4 (by decide) b
  refine ⟨by simp only [ByteArray.size, List.size_toArray]; omega, ?_⟩
  have t1 : ((⟨(codeL hexS 4 (a ++ b)).toArray⟩ : ByteArray).toList == ((⟨(codeL hexS 4 a).toArray⟩ : ByteArray) ++ ⟨(codeL hexS 4 b).toArray⟩).toList) = true := by rw [hex_app, str_app]; simp
  have t1' : (((⟨(codeL hexS 4 (a ++ b)).toArray⟩ : ByteArray).toList == ((⟨(codeL hexS 4 a).toArray⟩ : ByteArray) ++ ⟨(codeL hexS 4 b).toArray⟩).toList) == true) = true := by rw [t1]; rfl
  refine ct t1' ?_
  refine ct t1' ?_
  refine cvs (fun w' hs => base64_any _ (th ++ b) (by rw [List.length_append]; omega) w' (by have h := Rd.own hs 1 rfl hR4; simpa only [List.nil_append, ← Lib.byteCells_append] using h)) ?_
  refine ct t1' ?_
  refine ct t1' ?_
  refine cvs (fun w' hs => base64_any _ th (by omega) w' (by have h := ht.below hs.below; rwa [← htl] at h ⊢)) ?_
  refine ct t1' ?_
  refine ct t1' ?_
  refine cvs (fun w' hs => base64_any _ b (by omega) w' (hb.below hs.below)) ?_
  refine ct t1' ?_
  have m1 := codeL_len sixS 6 (by decide) th
  have m2 := codeL_len sixS 6 (by decide) b
  refine ⟨by simp only [ByteArray.size, List.size_toArray, filledL, List.length_append, List.length_replicate]; omega, ?_⟩
  have t2 : ((⟨(filledL (codeL sixS 6 (th ++ b))).toArray⟩ : ByteArray).toList == ((⟨(filledL (codeL sixS 6 th)).toArray⟩ : ByteArray) ++ ⟨(filledL (codeL sixS 6 b)).toArray⟩).toList) = true := by rw [base64_app _ _ tl, str_app]; simp
  refine ct t1' ?_
  refine ct t1 ?_
  exact rt (congrArg Value.bool t2)
end Go.Proofs.Ytcojgckfcgbodaa
