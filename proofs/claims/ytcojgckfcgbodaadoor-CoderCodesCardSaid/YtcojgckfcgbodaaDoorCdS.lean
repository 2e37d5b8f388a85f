/- The reference's hexadecimal figures and six bits; bytes side by side. -/
import Derived.Test.YtcojgckfcgbodaaDoorCdU
import Derived.Laws.BytesArg
import Derived.Laws.IdiomStrings
namespace Go.Proofs.YtcojgckfcgbodaaDoor
open Go.RowKit Go.Sx
set_option linter.unusedVariables false

theorem one8 (l : List UInt8) : ∀ u ∈ Lib.byteCells l, u.oneCell' = true := by
  intro u hu
  obtain ⟨b, _, rfl⟩ := List.mem_map.1 hu
  rfl
theorem undST : Tryd.prog.underlying 9 = some .string := by kernel_rfl
theorem undU8 : Tryd.prog.underlying 5 = some (.int .u8) := by kernel_rfl
theorem rd_str {w : World} {v : Value} {l : List UInt8} (h : Rd w v (Lib.byteCells l)) : (convert 22 9 v).run Tryd.prog w = .ok (.string ⟨l.toArray⟩) w := by
  obtain ⟨a, c, rfl, h1⟩ := h
  rw [Lib.byteCells_length]
  by_cases h0 : l = []
  · subst h0
    cases a with
    | none => exact run_convert_bytes_nil w _ _ und22 undU8 0 c _ undST
    | some a => exact run_convert_bytes_back w _ _ _ a c [] und22 undU8 undST (fun j hj => by cases hj)
  · obtain ⟨b, o, rfl, _, hc⟩ := h1 (by intro h; apply h0; have := congrArg List.length h; rw [Lib.byteCells_length] at this; exact List.eq_nil_of_length_eq_zero this)
    exact run_convert_bytes_back w _ _ _ _ c l und22 undU8 undST (fun j hj => by rw [addr_add]; exact hc j _ (by simp [Lib.byteCells, hj]))
theorem list_beq (a b : List UInt8) : ((ByteArray.mk a.toArray).toList == (ByteArray.mk b.toArray).toList) = decide (a = b) := by rw [Bool.eq_iff_iff]; simp
set_option maxRecDepth 100000 in
theorem same_any (va vb : Value) (a b : List UInt8) (w : World) (ha : Rd w va (Lib.byteCells a)) (hb : Rd w vb (Lib.byteCells b)) : Calls Tryd.prog 14 ([va, vb] : List Value).toArray w fun e w' => e = .returned (.bool (decide (a = b))) ∧ Below w.heap.size w w' := by
  refine enterV tab_ok Tryd.func14 rfl Tryd.ntmps14 rfl (St.start w) ?_
  refine semV (fun w' hs => rd_str (ha.below hs.below)) ?_
  refine semV (fun w' hs => rd_str (hb.below hs.below)) ?_
  exact rt (congrArg Value.bool (list_beq a b))
theorem sub_eq (n k : Nat) (h : k ≤ n) : (n : Int) - (k : Int) = ((n - k : Nat) : Int) := by omega
/-- the sign of six bits -/
theorem six_val : ∀ n, n < 64 → ((sgn sixS n).toNat : Int) = if n < 26 then 65 + (n : Int) else if n < 52 then 97 + (n : Int) - 26 else if n < 62 then 48 + (n : Int) - 52 else if n = 62 then 43 else 47 := by
  decide +kernel
set_option maxRecDepth 100000 in
theorem six_any (n : Nat) (hn : n < 64) (w : World) : Calls Tryd.prog 30 ([.int .i64 n] : List Value).toArray w fun e w' => e = .returned (.int .u8 (sgn sixS n).toNat) ∧ Below w.heap.size w w' := by
  have hv := six_val n hn
  refine enterV tab_ok Tryd.func30 rfl Tryd.ntmps30 rfl (St.start w) ?_
  refine cd (fun h => ?_) (fun h => ?_)
  · rw [if_pos (by omega)] at hv
    refine .same (by simp only [mn]; omega) (by simp only [mx]; omega) ?_
    refine .same (by simp only [mn]; omega) (by simp only [mx]; omega) ?_
    exact rt (congrArg (Value.int .u8) hv.symm)
  rw [if_neg (by omega)] at hv
  refine cd (fun h => ?_) (fun h => ?_)
  · rw [if_pos (by omega)] at hv
    refine .same (by simp only [mn]; omega) (by simp only [mx]; omega) ?_
    refine .same (by simp only [mn]; omega) (by simp only [mx]; omega) ?_
    refine .same (by simp only [mn]; omega) (by simp only [mx]; omega) ?_
    exact rt (congrArg (Value.int .u8) hv.symm)
  rw [if_neg (by omega)] at hv
  refine cd (fun h => ?_) (fun h => ?_)
  · rw [if_pos (by omega)] at hv
    refine .same (by simp only [mn]; omega) (by simp only [mx]; omega) ?_
    refine .same (by simp only [mn]; omega) (by simp only [mx]; omega) ?_
    refine .same (by simp only [mn]; omega) (by simp only [mx]; omega) ?_
    exact rt (congrArg (Value.int .u8) hv.symm)
  rw [if_neg (by omega)] at hv
  refine cq (fun h => ?_) (fun h => ?_)
  · rw [if_pos (by omega)] at hv
    exact rt (congrArg (Value.int .u8) hv.symm)
  · rw [if_neg (by omega)] at hv
    exact rt (congrArg (Value.int .u8) hv.symm)
/-- the reference's figures -/
def rhexL : List UInt8 → List UInt8
  | [] => []
  | c :: l => sgn hexS (c.toNat / 16) :: sgn hexS (c.toNat % 16) :: rhexL l
theorem rhexL_snoc (l : List UInt8) (c : UInt8) : rhexL (l ++ [c]) = rhexL l ++ [sgn hexS (c.toNat / 16), sgn hexS (c.toNat % 16)] := by
  induction l with
  | nil => rfl
  | cons d l ih => simp only [List.cons_append, rhexL, ih]
theorem rhexL_len (l : List UInt8) : (rhexL l).length = 2 * l.length := by
  induction l with
  | nil => rfl
  | cons d l ih => simp only [rhexL, List.length_cons, ih]; omega
theorem bs2 (x y : Int) (w : World) : (Instr.buildSlice 22 2 #[(0, .int .u8 x), (1, .int .u8 y)]).run Tryd.prog w = .ok (.slice (some ⟨w.heap.size, 0, none⟩) 2 2) (w.alloc (.cells #[.int .u8 x, .int .u8 y] 5)) := by
  obtain ⟨i, hi, hz, hs, hb⟩ := infoOf info5
  exact run_buildSlice w _ _ 2 _ #[.int .u8 x, .int .u8 y] i (.int .u8 0) und22 hi hz (by rw [hs]; decide) (by rw [hs]; decide) (by rw [hs]; kernel_rfl)
theorem cells_ne {l : List UInt8} (h : l ≠ []) : Lib.byteCells l ≠ [] := by intro h1; apply h; have := congrArg List.length h1; rw [Lib.byteCells_length] at this; exact List.eq_nil_of_length_eq_zero this
theorem cell_at {l : List UInt8} {i : Nat} (h : i < l.length) : (Lib.byteCells l)[i]? = some (.int .u8 l[i].toNat) := by simp [Lib.byteCells, h]
set_option maxRecDepth 100000 in
theorem rhex_any (v : Value) (l : List UInt8) (hl : l.length ≤ 1000000) (w : World) (hv : Rd w v (Lib.byteCells l)) : Calls Tryd.prog 12 ([v] : List Value).toArray w fun e w' => e = .returned (VS ⟨(rhexL l).toArray⟩) ∧ Below w.heap.size w w' := by
  have hv0 := hv
  obtain ⟨va, vc, rfl, _⟩ := hv
  rw [Lib.byteCells_length] at hv0 ⊢
  refine enterV tab_ok Tryd.func12 rfl Tryd.ntmps12 rfl (St.start w) ?_
  refine lp tab_ok (fun x : Nat × Sx.Own => x.1 ≤ l.length ∧ Rw 1 (rhexL (l.take x.1)).length x.2 (Lib.byteCells (rhexL (l.take x.1)))) (fun x => ⟨[(0, .slice va l.length vc), (3, .string hexS), (4, sv x.2 (rhexL (l.take x.1)).length), (5, .int .i64 x.1)], [se x.2 (Lib.byteCells (rhexL (l.take x.1))) 5], []⟩) (fun x => l.length - x.1)
    (0, none) ⟨Nat.zero_le _, Rw.nil 1⟩ ⟨⟨rfl, rfl, rfl, rfl, trivial⟩, .pad .nil, rfl⟩ ?_
  rintro ⟨i, r⟩ ⟨hi, hR⟩
  simp only at hi hR
  refine cd (fun h => ?_) (fun h => ?_)
  · have hlt : i < l.length := by (try simp only at h); omega
    obtain ⟨b, o, c, e, hb, hcell⟩ := rd_at hv0 (cells_ne (by intro h; rw [h] at hlt; cases hlt))
    injection e with e1 e2 e3
    subst e1 e3
    have hcell := hcell i _ (cell_at hlt)
    have hsn := rhexL_snoc (l.take i) l[i]
    rw [← take_snoc l i hlt] at hsn
    have hlen := rhexL_len (l.take i)
    rw [List.length_take, Nat.min_eq_left hi] at hlen
    have hc : l[i].toNat < 256 := UInt8.toNat_lt _
    generalize l[i].toNat = ch at *
    refine dr [] 99 (.t 0 (.t 1 (.t 2 (.t 3 (.t 4 (.t 5 (.t 6 (.t 7 (.t 8 (.t 9 (.t 10 (.t 11 (.t 12 (.t 13 (.t 14 (.n 15 (.n 16 (.n 17 .nil)))))))))))))))))) tab_ok mixed_ok (by kernel_rfl) .nil ?_
    refine ⟨by (try simp only); omega, by (try simp only); omega, ?_⟩
    refine ldo (v := .int .u8 ch) (by rw [nad_eq, nmu_eq]; simpa using hcell) hb ?_
    refine ⟨by omega, by simp only [mx]; omega, by decide, ?_⟩
    refine chP (ch / 16) rfl (by show ch / 16 < 16; omega) ?_
    refine ⟨by (try simp only); omega, by (try simp only); omega, ?_⟩
    refine ldo (v := .int .u8 ch) (by rw [nad_eq, nmu_eq]; simpa using hcell) hb ?_
    refine ⟨by omega, by simp only [mx]; omega, by decide, ?_⟩
    refine chP (ch % 16) rfl (by show ch % 16 < 16; omega) ?_
    refine .mk _ _ (bs2 _ _) (fun b' => ?_)
    refine ⟨.nil, ?_⟩
    refine ap 0 (news := Lib.byteCells [sgn hexS (ch / 16), sgn hexS (ch % 16)]) (m := 2) tab_ok rfl info5 rfl rfl hR (srcE (C := ⟨Tryd.prog, tab, 31, [], w, none⟩) (e' := 5) (tx := 22) (z := 1) rfl tab_ok (src 1 rfl rfl) rfl (one8 _)) (by (try simp only); omega) (by (try simp only); unfold maxLen; omega) (fun r' hR' => ?_)
    refine ⟨.nil, ⟨.nil, ?_⟩⟩
    refine .as ((i + 1 : Nat) : Int) (by simp) (by simp only [mn]; omega) (by simp only [mx]; omega) ?_
    refine ⟨(i + 1, r'), ⟨by (try simp only); omega, ?_⟩, by (try simp only); omega, ⟨⟨rfl, rfl, ?_, rfl, trivial⟩, ?_, rfl⟩⟩
    · simp only [hsn, List.length_append, Lib.byteCells_append]; exact hR'
    · simp only [hsn, List.length_append]; rfl
    · simp only [hsn, Lib.byteCells_append]; exact .cons .nil
  · obtain rfl : i = l.length := by (try simp only at h); omega
    refine semV (fun w' hs => rd_str (Rd.own hs 0 rfl hR)) ?_
    exact rt (by rw [List.take_length]; rfl)
end Go.Proofs.YtcojgckfcgbodaaDoor
