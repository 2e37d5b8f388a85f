/- Bytes as signs and back: the plain laws, signs of six bits. -/
import Derived.Test.YtcojgckfcgbodaaDoorCdQ
namespace Go.Proofs.YtcojgckfcgbodaaDoor
open Go.Sx

theorem six_id : ∀ i, i < 64 → idxO sixS (sgn sixS i) = some i ∧ sgn sixS i ≠ 61 ∧ pl6 (sgn sixS i) = i := by decide +kernel
theorem six_61 : pl6 61 = 0 := by decide +kernel
theorem ofn (c : UInt8) (n : Nat) (h : n % 256 = c.toNat) : UInt8.ofNat n = c := by
  apply UInt8.toNat_inj.1
  rw [UInt8.toNat_ofNat']; exact h
/-- what the program codes: three bytes, two, one -/
theorem code3 (a b c : UInt8) : codeL sixS 6 [a, b, c] = [sgn sixS (a.toNat / 4), sgn sixS ((a.toNat % 4 * 256 + b.toNat) / 16), sgn sixS ((b.toNat % 16 * 256 + c.toNat) / 64), sgn sixS (c.toNat % 64)] := by
  have e : csAll sixS 6 [a, b, c] = ([sgn sixS (a.toNat / 4), sgn sixS ((a.toNat % 4 * 256 + b.toNat) / 16), sgn sixS ((b.toNat % 16 * 256 + c.toNat) / 64), sgn sixS (c.toNat % 64)], 0, 0) := by
    simp [csAll, csB, csF, cs1]
    exact ⟨⟨congrArg _ (by omega), congrArg _ (by omega)⟩, by omega⟩
  unfold codeL; rw [e]; rfl
theorem code2 (a b : UInt8) : codeL sixS 6 [a, b] = [sgn sixS (a.toNat / 4), sgn sixS ((a.toNat % 4 * 256 + b.toNat) / 16), sgn sixS (b.toNat % 16 * 4)] := by
  have e : csAll sixS 6 [a, b] = ([sgn sixS (a.toNat / 4), sgn sixS ((a.toNat % 4 * 256 + b.toNat) / 16)], b.toNat % 16, 4) := by
    simp [csAll, csB, csF, cs1]
    omega
  unfold codeL; rw [e]; rfl
theorem code1 (a : UInt8) : codeL sixS 6 [a] = [sgn sixS (a.toNat / 4), sgn sixS (a.toNat % 4 * 16)] := by
  have e : csAll sixS 6 [a] = ([sgn sixS (a.toNat / 4)], a.toNat % 4, 2) := by
    simp [csAll, csB, csF, cs1]
  unfold codeL; rw [e]; rfl
theorem code_cons (a b c : UInt8) (l : List UInt8) : codeL sixS 6 (a :: b :: c :: l) = codeL sixS 6 [a, b, c] ++ codeL sixS 6 l := codeL_app sixS 6 (by decide) [a, b, c] l (by simp)
theorem fill_cons (p l : List UInt8) (h : p.length % 4 = 0) : filledL (p ++ l) = p ++ filledL l := by
  rw [filledL_app p l h]; congr 1
  unfold filledL; rw [h]; simp
theorem rb64_cons (a b c : UInt8) (l : List UInt8) (m : Nat) : rb64 (a :: b :: c :: l) (m + 1) = q4 3 (a.toNat * 65536 + b.toNat * 256 + c.toNat) ++ rb64 l m := by
  induction m with
  | zero =>
    show [] ++ q64 _ 0 = _ ++ []
    simp [q64]
  | succ m ih =>
    show rb64 (a :: b :: c :: l) (m + 1) ++ q64 _ (m + 1) = _ ++ (rb64 l m ++ q64 l m)
    rw [ih, List.append_assoc]
    congr 2
    unfold q64
    rw [show 3 * (m + 1) = 3 * m + 3 by omega]
    simp only [List.length_cons]
    congr 1
    omega
theorem q4_3 (a b c : UInt8) : q4 3 (a.toNat * 65536 + b.toNat * 256 + c.toNat) = codeL sixS 6 [a, b, c] := by
  have h1 := UInt8.toNat_lt a
  have h2 := UInt8.toNat_lt b
  have h3 := UInt8.toNat_lt c
  rw [code3]
  unfold q4
  simp only [show ¬ 3 < 2 by decide, show ¬ 3 < 3 by decide, if_false]
  rw [show (a.toNat * 65536 + b.toNat * 256 + c.toNat) / 262144 = a.toNat / 4 by omega, show (a.toNat * 65536 + b.toNat * 256 + c.toNat) / 4096 % 64 = (a.toNat % 4 * 256 + b.toNat) / 16 by omega,
    show (a.toNat * 65536 + b.toNat * 256 + c.toNat) / 64 % 64 = (b.toNat % 16 * 256 + c.toNat) / 64 by omega, show (a.toNat * 65536 + b.toNat * 256 + c.toNat) % 64 = c.toNat % 64 by omega]
theorem b64_B : ∀ b : List UInt8, rb64A b = filledL (codeL sixS 6 b)
  | [] => rfl
  | [a] => by
    have h1 := UInt8.toNat_lt a
    rw [code1]
    rw [show rb64A [a] = [] ++ q64 [a] 0 from by unfold rb64A; rw [show ([a].length + 2) / 3 = 1 from by simp]; rfl, List.nil_append]
    have e : q64 [a] 0 = q4 1 (a.toNat * 65536) := by simp [q64]
    rw [e]
    unfold q4 filledL
    simp only [show 1 < 2 by decide, show 1 < 3 by decide, if_true]
    rw [show a.toNat * 65536 / 262144 = a.toNat / 4 by omega, show a.toNat * 65536 / 4096 % 64 = a.toNat % 4 * 16 by omega]
    rfl
  | [a, b] => by
    have h1 := UInt8.toNat_lt a
    have h2 := UInt8.toNat_lt b
    rw [code2]
    rw [show rb64A [a, b] = [] ++ q64 [a, b] 0 from by unfold rb64A; rw [show ([a, b].length + 2) / 3 = 1 from by simp]; rfl, List.nil_append]
    have e : q64 [a, b] 0 = q4 2 (a.toNat * 65536 + b.toNat * 256) := by simp [q64]
    rw [e]
    unfold q4 filledL
    simp only [show ¬ 2 < 2 by decide, show 2 < 3 by decide, if_true, if_false]
    rw [show (a.toNat * 65536 + b.toNat * 256) / 262144 = a.toNat / 4 by omega, show (a.toNat * 65536 + b.toNat * 256) / 4096 % 64 = (a.toNat % 4 * 256 + b.toNat) / 16 by omega,
      show (a.toNat * 65536 + b.toNat * 256) / 64 % 64 = b.toNat % 16 * 4 by omega]
    rfl
  | a :: b :: c :: l => by
    have ih := b64_B l
    unfold rb64A at ih ⊢
    rw [show ((a :: b :: c :: l).length + 2) / 3 = (l.length + 2) / 3 + 1 by simp only [List.length_cons]; omega, rb64_cons, ih, q4_3, code_cons a b c l, fill_cons _ _ (by rw [code3]; simp)]
/-- and back: four signs, three, two -/
theorem ds4 (i j k m : Nat) (hi : i < 64) (hj : j < 64) (hk : k < 64) (hm : m < 64) : dsAll sixS 6 [sgn sixS i, sgn sixS j, sgn sixS k, sgn sixS m] ([], 0, 0) = some ([UInt8.ofNat ((i * 64 + j) / 16), UInt8.ofNat ((j % 16 * 64 + k) / 4), UInt8.ofNat (k % 4 * 64 + m)], 0, 0) := by
  simp [dsAll, (six_id i hi).1, (six_id j hj).1, (six_id k hk).1, (six_id m hm).1, ds1]
  exact ⟨⟨congrArg _ (by omega), congrArg (fun z => UInt8.ofNat z * 64) (by omega)⟩, by omega⟩
theorem ds3 (i j k : Nat) (hi : i < 64) (hj : j < 64) (hk : k < 64) : dsAll sixS 6 [sgn sixS i, sgn sixS j, sgn sixS k] ([], 0, 0) = some ([UInt8.ofNat ((i * 64 + j) / 16), UInt8.ofNat ((j % 16 * 64 + k) / 4)], k % 4, 2) := by
  simp [dsAll, (six_id i hi).1, (six_id j hj).1, (six_id k hk).1, ds1]
  exact ⟨congrArg _ (by omega), by omega⟩
theorem ds2 (i j : Nat) (hi : i < 64) (hj : j < 64) : dsAll sixS 6 [sgn sixS i, sgn sixS j] ([], 0, 0) = some ([UInt8.ofNat ((i * 64 + j) / 16)], j % 16, 4) := by
  simp [dsAll, (six_id i hi).1, (six_id j hj).1, ds1]
  omega
theorem ds1' (i : Nat) (hi : i < 64) : dsAll sixS 6 [sgn sixS i] ([], 0, 0) = some ([], i, 6) := by
  simp [dsAll, (six_id i hi).1, ds1]
theorem b64_C : ∀ b : List UInt8, decL sixS 6 (codeL sixS 6 b) = some b
  | [] => rfl
  | [a] => by
    have h1 := UInt8.toNat_lt a
    rw [code1]
    unfold decL
    rw [ds2 _ _ (by omega) (by omega)]
    unfold decE
    simp only [show ¬ 6 ≤ 4 by decide, false_or]
    rw [if_neg (by omega), ofn a _ (by omega)]
  | [a, b] => by
    have h1 := UInt8.toNat_lt a
    have h2 := UInt8.toNat_lt b
    rw [code2]
    unfold decL
    rw [ds3 _ _ _ (by omega) (by omega) (by omega)]
    unfold decE
    simp only [show ¬ 6 ≤ 2 by decide, false_or]
    rw [if_neg (by omega), ofn a _ (by omega), ofn b _ (by omega)]
  | a :: b :: c :: l => by
    have h1 := UInt8.toNat_lt a
    have h2 := UInt8.toNat_lt b
    have h3 := UInt8.toNat_lt c
    have ih := b64_C l
    rw [code_cons a b c l, code3, decL_pre _ _ _ _ _ (ds4 _ _ _ _ (by omega) (by omega) (by omega) (by omega)), ih, ofn a _ (by omega), ofn b _ (by omega), ofn c _ (by omega)]
    rfl
theorem toN (n : Nat) (h : n < 256) : (UInt8.ofNat n).toNat = n := by rw [UInt8.toNat_ofNat']; omega
theorem b64_D : ∀ s x : List UInt8, decL sixS 6 s = some x → codeL sixS 6 x = s
  | [], x, h => by
    have : x = [] := by have e : decL sixS 6 [] = some [] := rfl; rw [e] at h; exact (Option.some.inj h).symm
    subst this; rfl
  | [a], x, h => by
    obtain ⟨i, hi, rfl⟩ := dec_head h
    unfold decL at h
    rw [ds1' i hi] at h
    cases h
  | [a, b], x, h => by
    obtain ⟨i, hi, rfl⟩ := dec_head h
    obtain ⟨s', h'⟩ := dec_tail h
    obtain ⟨j, hj, rfl⟩ := dec_head h'
    have hi : i < 64 := hi
    have hj : j < 64 := hj
    unfold decL at h
    rw [ds2 i j hi hj] at h
    unfold decE at h
    simp only [show ¬ 6 ≤ 4 by decide, false_or] at h
    by_cases h0 : j % 16 = 0
    · rw [if_neg (by omega)] at h
      obtain rfl := Option.some.inj h
      rw [code1, toN _ (by omega)]
      rw [show (i * 64 + j) / 16 / 4 = i by omega, show (i * 64 + j) / 16 % 4 * 16 = j by omega]
    · rw [if_pos h0] at h; cases h
  | [a, b, c], x, h => by
    obtain ⟨i, hi, rfl⟩ := dec_head h
    obtain ⟨s', h'⟩ := dec_tail h
    obtain ⟨j, hj, rfl⟩ := dec_head h'
    obtain ⟨s'', h''⟩ := dec_tail h'
    obtain ⟨k, hk, rfl⟩ := dec_head h''
    have hi : i < 64 := hi
    have hj : j < 64 := hj
    have hk : k < 64 := hk
    unfold decL at h
    rw [ds3 i j k hi hj hk] at h
    unfold decE at h
    simp only [show ¬ 6 ≤ 2 by decide, false_or] at h
    by_cases h0 : k % 4 = 0
    · rw [if_neg (by omega)] at h
      obtain rfl := Option.some.inj h
      rw [code2, toN _ (by omega), toN _ (by omega)]
      rw [show (i * 64 + j) / 16 / 4 = i by omega, show ((i * 64 + j) / 16 % 4 * 256 + (j % 16 * 64 + k) / 4) / 16 = j by omega, show (j % 16 * 64 + k) / 4 % 16 * 4 = k by omega]
    · rw [if_pos h0] at h; cases h
  | a :: b :: c :: d :: l, x, h => by
    obtain ⟨i, hi, rfl⟩ := dec_head h
    obtain ⟨s', h'⟩ := dec_tail h
    obtain ⟨j, hj, rfl⟩ := dec_head h'
    obtain ⟨s'', h''⟩ := dec_tail h'
    obtain ⟨k, hk, rfl⟩ := dec_head h''
    obtain ⟨s3, h3⟩ := dec_tail h''
    obtain ⟨m, hm, rfl⟩ := dec_head h3
    have hi : i < 64 := hi
    have hj : j < 64 := hj
    have hk : k < 64 := hk
    have hm : m < 64 := hm
    have e := decL_pre sixS 6 _ _ l (ds4 i j k m hi hj hk hm)
    rw [show [sgn sixS i, sgn sixS j, sgn sixS k, sgn sixS m] ++ l = sgn sixS i :: sgn sixS j :: sgn sixS k :: sgn sixS m :: l from rfl, h] at e
    cases hl : decL sixS 6 l with
    | none => rw [hl] at e; cases e
    | some y =>
      rw [hl] at e
      have e2 := Option.some.inj e
      have ih := b64_D l y hl
      subst e2
      show codeL sixS 6 (_ :: _ :: _ :: y) = _
      rw [code_cons, ih, code3, toN _ (by omega), toN _ (by omega), toN _ (by omega)]
      rw [show (i * 64 + j) / 16 / 4 = i by omega, show ((i * 64 + j) / 16 % 4 * 256 + (j % 16 * 64 + k) / 4) / 16 = j by omega, show ((j % 16 * 64 + k) / 4 % 16 * 256 + (k % 4 * 64 + m)) / 64 = k by omega, show (k % 4 * 64 + m) % 64 = m by omega]
      rfl
/-- no sign of a code is "=" -/
theorem code_61 : ∀ b : List UInt8, ∀ c ∈ codeL sixS 6 b, c ≠ 61
  | [], c, h => by cases h
  | [a], c, h => by
    have h1 := UInt8.toNat_lt a
    rw [code1] at h
    simp only [List.mem_cons, List.not_mem_nil, or_false] at h
    rcases h with rfl | rfl
    · exact (six_id _ (by omega)).2.1
    · exact (six_id _ (by omega)).2.1
  | [a, b], c, h => by
    have h1 := UInt8.toNat_lt a
    have h2 := UInt8.toNat_lt b
    rw [code2] at h
    simp only [List.mem_cons, List.not_mem_nil, or_false] at h
    rcases h with rfl | rfl | rfl
    · exact (six_id _ (by omega)).2.1
    · exact (six_id _ (by omega)).2.1
    · exact (six_id _ (by omega)).2.1
  | a :: b :: d :: l, c, h => by
    have h1 := UInt8.toNat_lt a
    have h2 := UInt8.toNat_lt b
    have h3 := UInt8.toNat_lt d
    rw [code_cons, code3] at h
    simp only [List.mem_append, List.mem_cons, List.not_mem_nil, or_false] at h
    rcases h with (rfl | rfl | rfl | rfl) | h
    · exact (six_id _ (by omega)).2.1
    · exact (six_id _ (by omega)).2.1
    · exact (six_id _ (by omega)).2.1
    · exact (six_id _ (by omega)).2.1
    · exact code_61 l c h
theorem trim_fill (l : List UInt8) (h : ∀ c ∈ l, c ≠ 61) (n : Nat) : trimL (l ++ List.replicate n 61) = l := by
  induction n with
  | zero =>
    rw [List.replicate_zero, List.append_nil]
    rcases List.eq_nil_or_concat l with rfl | ⟨q, c, rfl⟩
    · rfl
    · rw [List.concat_eq_append] at h ⊢
      rw [trimL_snoc, if_neg (by have := h c (by simp); simpa using this)]
  | succ n ih => rw [List.replicate_succ', ← List.append_assoc, trimL_snoc, if_pos (by rfl)]; exact ih
theorem b64_CC (b : List UInt8) : dec64 (rb64A b) = some b := by
  rw [b64_B]
  unfold dec64
  rw [show trimL (filledL (codeL sixS 6 b)) = codeL sixS 6 b from trim_fill _ (code_61 b) _, if_pos rfl, b64_C]
theorem b64_DD (s x : List UInt8) (h : dec64 s = some x) : rb64A x = s := by
  unfold dec64 at h
  split at h
  · rename_i h1
    rw [b64_B, b64_D _ x h, h1]
  · cases h
theorem rub_cons (a b c d : UInt8) (l : List UInt8) (m : Nat) : rub (a :: b :: c :: d :: l) (m + 1) = ub (a :: b :: c :: d :: l) 0 ++ rub l m := by
  induction m with
  | zero => show [] ++ _ = _ ++ []; rw [List.nil_append, List.append_nil]
  | succ m ih =>
    show rub (a :: b :: c :: d :: l) (m + 1) ++ ub _ (m + 1) = _ ++ (rub l m ++ ub l m)
    have e : (fun j => (a :: b :: c :: d :: l).getD (4 * (m + 1) + j) 0) = fun j => l.getD (4 * m + j) 0 := by
      funext j
      rw [show 4 * (m + 1) + j = 4 * m + j + 4 by omega]; rfl
    have e2 : ub (a :: b :: c :: d :: l) (m + 1) = ub l m := by unfold ub; rw [e]
    rw [ih, List.append_assoc, e2]
theorem ub_0 (a b c d : UInt8) (l : List UInt8) : ub (a :: b :: c :: d :: l) 0 = (b3 (64 * (64 * (64 * (64 * 0 + pl6 a) + pl6 b) + pl6 c) + pl6 d)).take (3 - ((((if a = 61 then 1 else 0) + if b = 61 then 1 else 0) + if c = 61 then 1 else 0) + if d = 61 then 1 else 0)) := by
  have e : cnt (fun j => (a :: b :: c :: d :: l).getD (4 * 0 + j) 0) 4 = ((((if a = 61 then 1 else 0) + if b = 61 then 1 else 0) + if c = 61 then 1 else 0) + if d = 61 then 1 else 0) := by
    simp only [cnt]
    simp only [Nat.mul_zero, Nat.zero_add, List.getD_cons_zero, List.getD_cons_succ]
    by_cases h1 : a = 61 <;> by_cases h2 : b = 61 <;> by_cases h3 : c = 61 <;> by_cases h4 : d = 61 <;> simp [h1, h2, h3, h4]
  unfold ub
  rw [e]
  rfl
theorem len4 (x y z u : UInt8) : [x, y, z, u].length / 4 = 0 + 1 := by simp
theorem b64_E : ∀ b : List UInt8, rub (rb64A b) ((rb64A b).length / 4) = b
  | [] => rfl
  | [a] => by
    have h1 := UInt8.toNat_lt a
    have e : rb64A [a] = [sgn sixS (a.toNat / 4), sgn sixS (a.toNat % 4 * 16), 61, 61] := by rw [b64_B, code1]; rfl
    have s1 := six_id (a.toNat / 4) (by omega)
    have s2 := six_id (a.toNat % 4 * 16) (by omega)
    rw [e]
    rw [len4, rub_cons, ub_0, s1.2.2, s2.2.2, six_61, if_neg s1.2.1, if_neg s2.2.1]
    show [UInt8.ofNat _] = _
    rw [ofn a _ (by omega)]
  | [a, b] => by
    have h1 := UInt8.toNat_lt a
    have h2 := UInt8.toNat_lt b
    have e : rb64A [a, b] = [sgn sixS (a.toNat / 4), sgn sixS ((a.toNat % 4 * 256 + b.toNat) / 16), sgn sixS (b.toNat % 16 * 4), 61] := by rw [b64_B, code2]; rfl
    have s1 := six_id (a.toNat / 4) (by omega)
    have s2 := six_id ((a.toNat % 4 * 256 + b.toNat) / 16) (by omega)
    have s3 := six_id (b.toNat % 16 * 4) (by omega)
    rw [e]
    rw [len4, rub_cons, ub_0, s1.2.2, s2.2.2, s3.2.2, six_61, if_neg s1.2.1, if_neg s2.2.1, if_neg s3.2.1]
    show [UInt8.ofNat _, UInt8.ofNat _] = _
    rw [ofn a _ (by omega), ofn b _ (by omega)]
  | a :: b :: c :: l => by
    have h1 := UInt8.toNat_lt a
    have h2 := UInt8.toNat_lt b
    have h3 := UInt8.toNat_lt c
    have ih := b64_E l
    have e : rb64A (a :: b :: c :: l) = sgn sixS (a.toNat / 4) :: sgn sixS ((a.toNat % 4 * 256 + b.toNat) / 16) :: sgn sixS ((b.toNat % 16 * 256 + c.toNat) / 64) :: sgn sixS (c.toNat % 64) :: rb64A l := by
      rw [b64_B, b64_B, code_cons, fill_cons _ _ (by rw [code3]; simp), code3]; rfl
    have s1 := six_id (a.toNat / 4) (by omega)
    have s2 := six_id ((a.toNat % 4 * 256 + b.toNat) / 16) (by omega)
    have s3 := six_id ((b.toNat % 16 * 256 + c.toNat) / 64) (by omega)
    have s4 := six_id (c.toNat % 64) (by omega)
    rw [e]
    rw [show (sgn sixS (a.toNat / 4) :: sgn sixS ((a.toNat % 4 * 256 + b.toNat) / 16) :: sgn sixS ((b.toNat % 16 * 256 + c.toNat) / 64) :: sgn sixS (c.toNat % 64) :: rb64A l).length / 4 = (rb64A l).length / 4 + 1 by simp only [List.length_cons]; omega]
    rw [rub_cons, ub_0, s1.2.2, s2.2.2, s3.2.2, s4.2.2, if_neg s1.2.1, if_neg s2.2.1, if_neg s3.2.1, if_neg s4.2.1, ih]
    show UInt8.ofNat _ :: UInt8.ofNat _ :: UInt8.ofNat _ :: _ = _
    rw [ofn a _ (by omega), ofn b _ (by omega), ofn c _ (by omega)]
    rfl
/-- the reference's bytes of signs are the program's -/
theorem b64_ref (s : List UInt8) : refU rb64A (rub s (s.length / 4)) s = dec64 s := by
  unfold refU
  cases h : dec64 s with
  | some x =>
    have h1 := b64_DD s x h
    have h2 := b64_E x
    rw [h1] at h2
    rw [h2, if_pos h1]
  | none =>
    rw [if_neg]
    intro h1
    have h2 := b64_CC (rub s (s.length / 4))
    rw [h1, h] at h2; cases h2
end Go.Proofs.YtcojgckfcgbodaaDoor
