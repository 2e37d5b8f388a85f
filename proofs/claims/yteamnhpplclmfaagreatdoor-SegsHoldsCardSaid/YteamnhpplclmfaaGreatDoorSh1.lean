/- For every script and wherever the power goes the law SegsHolds returns true; no condition. -/
import Derived.Deep.Slices
import Derived.Test.YteamnhpplclmfaaGreatDoorSb6
section
namespace Go.Proofs.YteamnhpplclmfaaGreatDoor
open Go.RowKit Go.Sx
set_option linter.unusedVariables false
def encL (ps : List Bs) : Bs := (ps.map recP).flatten
theorem enc_nil : encL [] = [] := rfl
theorem enc_cons (p : Bs) (ps : List Bs) : encL (p :: ps) = recP p ++ encL ps := rfl
theorem enc_app (ps qs : List Bs) : encL (ps ++ qs) = encL ps ++ encL qs := by simp [encL]
theorem enc_one (p : Bs) : encL [p] = recP p := by simp [encL]
theorem enc_len (ps : List Bs) : (encL ps).length = wholeL ps := by
  induction ps with
  | nil => rfl
  | cons p ps ih => rw [enc_cons, List.length_append, ih, whole_cons, rec_len]
theorem whole_appL (ps qs : List Bs) : wholeL (ps ++ qs) = wholeL ps + wholeL qs := by simp [wholeL]
theorem u8_nat (n : Nat) : (UInt8.ofNat (n % 256)).toNat = n % 256 := by rw [UInt8.toNat_ofNat']; omega
theorem unle_le4 (n : Nat) (h : n < 4294967296) : unle (le4 n) = n := by
  show (UInt8.ofNat (n % 256)).toNat + 256 * ((UInt8.ofNat (n / 256 % 256)).toNat + 256 * ((UInt8.ofNat (n / 65536 % 256)).toNat + 256 * ((UInt8.ofNat (n / 16777216 % 256)).toNat + 256 * 0))) = n
  rw [u8_nat, u8_nat, u8_nat, u8_nat]; omega
theorem rec_take4 (p rest : Bs) : (recP p ++ rest).take 4 = le4 p.length := by simp [recP, le4]
theorem rec_mid (p rest : Bs) : ((recP p ++ rest).drop 4).take 4 = le4 (crcP [le4 p.length, p]) := by simp [recP, le4]
theorem rec_drop8 (p rest : Bs) : (recP p ++ rest).drop 8 = p ++ rest := by simp [recP, le4]
theorem first_rec (p rest : Bs) (hp : p.length ≤ 65536) : firstP (recP p ++ rest) = some p := by
  have h1 := rec_take4 p rest
  have h2 := unle_le4 p.length (by omega)
  have h3 := unle_le4 _ (crc_lt [le4 p.length, p])
  have h4 : (recP p ++ rest).length = 8 + p.length + rest.length := by rw [List.length_append, rec_len]
  unfold firstP
  rw [h1, h2, rec_mid, rec_drop8, h3, h4, if_neg (by omega), if_neg (by omega)]
  simp
theorem recs_enc (ps : List Bs) (rest : Bs) (h : ∀ p ∈ ps, p.length ≤ 65536) : recsP (encL ps ++ rest) = ps ++ recsP rest := by
  induction ps with
  | nil => rfl
  | cons p ps ih =>
    rw [enc_cons, List.append_assoc, recs_some (first_rec p _ (h p (by simp))), ← rec_len, List.drop_left, ih fun q hq => h q (by simp [hq])]
    rfl
theorem recs_nil : recsP [] = [] := rfl
theorem recs_all (ps : List Bs) (h : ∀ p ∈ ps, p.length ≤ 65536) : recsP (encL ps) = ps := by
  have := recs_enc ps [] h
  rwa [List.append_nil, recs_nil, List.append_nil] at this
theorem whole_enc (ps : List Bs) (h : ∀ p ∈ ps, p.length ≤ 65536) : wholeP (encL ps) = (encL ps).length := by
  unfold wholeP; rw [recs_all ps h, enc_len]
/-- a record that is torn is none -/
theorem first_torn (p rest : Bs) (n : Nat) (hp : p.length ≤ 65536) (hn : n < 8 + p.length) : firstP ((recP p ++ rest).take n) = none := by
  have hl : ((recP p ++ rest).take n).length ≤ n := List.length_take_le ..
  unfold firstP
  by_cases h8 : ((recP p ++ rest).take n).length < 8
  · rw [if_pos h8]
  · rw [if_neg h8]
    have h1 : ((recP p ++ rest).take n).take 4 = le4 p.length := by rw [List.take_take, Nat.min_eq_left (by omega), rec_take4]
    rw [h1, unle_le4 _ (by omega), if_pos (.inr (by omega))]
/-- rows that are torn: the records that are whole -/
theorem recs_torn (ps : List Bs) (h : ∀ p ∈ ps, p.length ≤ 65536) : ∀ n, ∃ j, j ≤ ps.length ∧ recsP ((encL ps).take n) = ps.take j ∧ wholeL (ps.take j) ≤ n ∧ ∀ q, q ≤ ps.length → wholeL (ps.take q) ≤ n → q ≤ j := by
  induction ps with
  | nil => exact fun n => ⟨0, Nat.le_refl _, by simp [encL, recs_nil], by simp [wholeL], fun q hq _ => hq⟩
  | cons p ps ih =>
    intro n
    have hp := h p (by simp)
    by_cases hn : n < 8 + p.length
    · refine ⟨0, Nat.zero_le _, ?_, by simp [wholeL], fun q hq hw => ?_⟩
      · rw [enc_cons, recs_none (first_torn p _ n hp hn)]; rfl
      · cases q with
        | zero => exact Nat.le_refl _
        | succ q => rw [List.take_succ_cons, whole_cons] at hw; omega
    · obtain ⟨j, h1, h2, h3, h4⟩ := ih (fun q hq => h q (by simp [hq])) (n - (8 + p.length))
      refine ⟨j + 1, by simp; omega, ?_, ?_, fun q hq hw => ?_⟩
      · have e : (encL (p :: ps)).take n = recP p ++ (encL ps).take (n - (8 + p.length)) := by
          rw [enc_cons, List.take_append, List.take_of_length_le (by rw [rec_len]; omega), rec_len]
        rw [e, recs_some (first_rec p _ hp), ← rec_len, List.drop_left, rec_len, h2]; rfl
      · rw [List.take_succ_cons, whole_cons]; omega
      · cases q with
        | zero => exact Nat.zero_le _
        | succ q =>
          rw [List.take_succ_cons, whole_cons] at hw
          have := h4 q (by simpa using hq) (by omega)
          omega
theorem told_rec (m : Nat) (h1 : 1 ≤ m) (h2 : m ≤ 1048576) : toldP (recP (le4 m)) = m := by
  have h3 : recsP (recP (le4 m)) = [le4 m] := by
    have := recs_all [le4 m] (fun p hp => by obtain rfl := List.mem_singleton.1 hp; show 4 ≤ 65536; decide)
    rwa [enc_one] at this
  have h4 : (recP (le4 m)).length = 12 := by rw [rec_len]; rfl
  have h5 := unle_le4 m (by omega)
  unfold toldP
  rw [h3]
  show (if (le4 m).length = 4 ∧ _ then _ else _) = _
  rw [h5, h4, if_pos ⟨rfl, rfl, h1, h2⟩]
end Go.Proofs.YteamnhpplclmfaaGreatDoor
end
section
namespace Go.Proofs.YteamnhpplclmfaaGreatDoor
open Go.RowKit Go.Sx
set_option linter.unusedVariables false
def figK : Nat → Nat → Bs
  | 0, _ => []
  | k + 1, n => UInt8.ofNat (48 + n / 10 ^ k % 10) :: figK k (n % 10 ^ k)
theorem dig_mod (n m k : Nat) (h : k < m) : n % 10 ^ m / 10 ^ k % 10 = n / 10 ^ k % 10 := by
  obtain ⟨j, rfl⟩ : ∃ j, m = k + (j + 1) := ⟨m - k - 1, by omega⟩
  rw [Nat.pow_add, Nat.mod_mul_right_div_self, Nat.mod_mod_of_dvd]
  exact ⟨10 ^ j, by rw [Nat.pow_succ, Nat.mul_comm]⟩
theorem figK_mod : ∀ (k m n : Nat), k ≤ m → figK k (n % 10 ^ m) = figK k n := by
  intro k
  induction k with
  | zero => intro m n _; rfl
  | succ k ih =>
    intro m n h
    rw [figK, figK, dig_mod n m k h, Nat.mod_mod_of_dvd _ (Nat.pow_dvd_pow 10 (by omega))]
theorem figK_s (k n : Nat) : figK (k + 1) n = UInt8.ofNat (48 + n / 10 ^ k % 10) :: figK k n := by rw [figK, figK_mod k k n (Nat.le_refl _)]
theorem fig8_K (n : Nat) : fig8 n = figK 8 n := by
  rw [figK_s, figK_s, figK_s, figK_s, figK_s, figK_s, figK_s, figK_s, Nat.pow_zero, Nat.div_one]
  rfl
theorem figK_lt : ∀ (k a b : Nat), b < 10 ^ k → a < b → figK k a < figK k b := by
  intro k
  induction k with
  | zero => intro a b hb hab; simp at hb; omega
  | succ k ih =>
    intro a b hb hab
    have hp : 0 < 10 ^ k := Nat.pos_of_ne_zero (by simp)
    rw [Nat.pow_succ] at hb
    have ha2 : a / 10 ^ k < 10 := by rw [Nat.div_lt_iff_lt_mul hp]; omega
    have hb2 : b / 10 ^ k < 10 := by rw [Nat.div_lt_iff_lt_mul hp]; omega
    have hle : a / 10 ^ k ≤ b / 10 ^ k := Nat.div_le_div_right (Nat.le_of_lt hab)
    rw [figK, figK, List.cons_lt_cons_iff, Nat.mod_eq_of_lt ha2, Nat.mod_eq_of_lt hb2]
    have hu : ∀ x, x < 10 → (UInt8.ofNat (48 + x)).toNat = 48 + x := fun x hx => by rw [UInt8.toNat_ofNat']; omega
    rcases Nat.lt_or_ge (a / 10 ^ k) (b / 10 ^ k) with h | h
    · left
      rw [UInt8.lt_iff_toNat_lt, hu _ ha2, hu _ hb2]; omega
    · right
      have he : a / 10 ^ k = b / 10 ^ k := by omega
      refine ⟨by rw [he], ih _ _ (Nat.mod_lt _ hp) ?_⟩
      have h1 := Nat.div_add_mod a (10 ^ k)
      have h2 := Nat.div_add_mod b (10 ^ k)
      rw [he] at h1
      omega
theorem name_lt {a b : Nat} (hb : b < 100000000) (hab : a < b) : nameS a < nameS b := by
  unfold nameS
  rw [fig8_K, fig8_K]
  have := figK_lt 8 a b (by simpa using hb) hab
  show (115 :: 101 :: 103 :: 45 :: figK 8 a : Bs) < 115 :: 101 :: 103 :: 45 :: figK 8 b
  simpa [List.cons_lt_cons_iff] using this
theorem name_inj {a b : Nat} (ha : a < 100000000) (hb : b < 100000000) (h : nameS a = nameS b) : a = b := by
  rcases Nat.lt_trichotomy a b with h1 | h1 | h1
  · have := name_lt hb h1; rw [h] at this; exact absurd this (List.lt_irrefl _)
  · exact h1
  · have := name_lt ha h1; rw [h] at this; exact absurd this (List.lt_irrefl _)
theorem name_man (a : Nat) : nameS a ≠ manB := by unfold nameS manB; intro h; injection h with h1 _; cases h1
theorem name_new (a : Nat) : nameS a ≠ newB := by unfold nameS newB; intro h; injection h with h1 _; cases h1
theorem man_new : manB ≠ newB := by decide
theorem named_new : namedL newB = true := by decide
theorem named_man : namedL manB = true := by decide
theorem named_seg (n : Nat) : namedL (nameS n) = true := by
  have hd : ∀ x, nameB (UInt8.ofNat (48 + x % 10)) = true := fun x => by
    have : (UInt8.ofNat (48 + x % 10)).toNat = 48 + x % 10 := by rw [UInt8.toNat_ofNat']; omega
    unfold nameB nameN
    rw [this]
    have h1 : (48 ≤ 48 + x % 10) := by omega
    have h2 : 48 + x % 10 ≤ 57 := by omega
    simp [h1, h2]
  unfold namedL nameS fig8
  simp only [List.cons_append, List.nil_append, List.all_cons, List.all_nil, hd, Bool.and_true, List.length_cons, List.length_nil]
  rfl
theorem pre_seg (n : Nat) : List.isPrefixOf [115, 101, 103, 45] (nameS n) = true := rfl
theorem pre_man : List.isPrefixOf [115, 101, 103, 45] manB = false := by decide
theorem find_set (n : Bs) (f : Fe) (fs : List Fe) : findF n (setF f fs) = if n = f.name then some f else findF n fs := by
  induction fs with
  | nil => simp only [setF, findF]
  | cons g l ih =>
    rw [setF]
    by_cases h : f.name = g.name
    · rw [if_pos h]
      simp only [findF]
      split
      · rfl
      · rename_i h2; rw [if_neg (by rw [← h]; exact h2)]
    · rw [if_neg h]
      simp only [findF, ih]
      by_cases h2 : n = g.name
      · rw [if_pos h2, if_pos h2, if_neg (by rw [h2]; exact fun e => h e.symm)]
      · rw [if_neg h2, if_neg h2]
theorem find_del {fs : List Fe} (h : Nms fs) (n m : Bs) : findF n (delF m fs) = if n = m then none else findF n fs := by
  induction fs with
  | nil => simp [delF, findF]
  | cons g l ih =>
    have hn : g.name ∉ l.map (·.name) ∧ Nms l := by simpa [Nms] using h
    rw [delF]
    by_cases hm : m = g.name
    · rw [if_pos hm]
      by_cases hnm : n = m
      · rw [if_pos hnm]
        exact findF_none.2 (by rw [hnm, hm]; exact hn.1)
      · rw [if_neg hnm, findF, if_neg (by rw [← hm]; exact hnm)]
    · rw [if_neg hm]
      simp only [findF, ih hn.2]
      by_cases h2 : n = g.name
      · rw [if_pos h2, if_pos h2, if_neg (by rw [h2]; exact fun e => hm e.symm)]
      · rw [if_neg h2, if_neg h2]
theorem find_crashF (k : Int) (n : Bs) (fs : List Fe) : findF n (fs.map (crashF k)) = (findF n fs).map (crashF k) := by
  induction fs with
  | nil => rfl
  | cons g l ih =>
    rw [List.map_cons]
    simp only [findF]
    rw [show (crashF k g).name = g.name from rfl]
    by_cases h : n = g.name
    · rw [if_pos h, if_pos h]; rfl
    · rw [if_neg h, if_neg h]; exact ih
end Go.Proofs.YteamnhpplclmfaaGreatDoor
end
section
namespace Go.Proofs.YteamnhpplclmfaaGreatDoor
open Go.RowKit Go.Sx
set_option linter.unusedVariables false
/-- the files of a store: segments that are full and sure, the last one with so many records that are sure, the manifest -/
structure Gd (Ss : List (List Bs)) (P : List Bs) (q : Nat) (F : List Fe) : Prop where
  nd : Nms F
  m : Ss.length < 100000
  sh : ∀ s ∈ Ss, ∀ p ∈ s, p.length ≤ 65536
  ph : ∀ p ∈ P, p.length ≤ 65536
  ful : ∀ i (h : i < Ss.length), ∃ f, findF (nameS (i + 1)) F = some f ∧ f.bs = encL Ss[i] ∧ f.sure = f.bs.length
  ql : q ≤ P.length
  las : (P = [] ∧ findF (nameS (Ss.length + 1)) F = none) ∨ ∃ f, findF (nameS (Ss.length + 1)) F = some f ∧ f.bs = encL P ∧ f.sure = wholeL (P.take q)
  man : if Ss.length = 0 then findF manB F = none else ∃ f, findF manB F = some f ∧ f.bs = recP (le4 (Ss.length + 1)) ∧ f.sure = f.bs.length
  oth : ∀ f ∈ F, f.name = manB ∨ f.name = newB ∨ ∃ i, 1 ≤ i ∧ i ≤ Ss.length + 1 ∧ f.name = nameS i
theorem Gd.nil : Gd [] [] 0 [] := ⟨List.nodup_nil, by decide, by simp, by simp, (fun i h => by simp at h), Nat.le_refl _, .inl ⟨rfl, rfl⟩, rfl, by simp⟩
theorem name_ne {a b : Nat} (ha : a < 200000) (hb : b < 200000) (h : a ≠ b) : nameS a ≠ nameS b := fun e => h (name_inj (by omega) (by omega) e)
/-- a file that is neither a segment nor the manifest changes nothing -/
theorem Gd.new {Ss : List (List Bs)} {P : List Bs} {q : Nat} {F : List Fe} (h : Gd Ss P q F) (bs : Bs) (s : Nat) : Gd Ss P q (setF ⟨newB, bs, s⟩ F) := by
  have hn : ∀ a, findF (nameS a) (setF ⟨newB, bs, s⟩ F) = findF (nameS a) F := fun a => by rw [find_set, if_neg (name_new a)]
  refine ⟨set_nd h.nd _, h.m, h.sh, h.ph, fun i hi => by rw [hn]; exact h.ful i hi, h.ql, by rw [hn]; exact h.las, ?_, fun f hf => ?_⟩
  · have := h.man
    rw [find_set, if_neg (show manB ≠ newB from man_new)]; exact this
  · rcases (set_mem h.nd _ f).1 hf with rfl | hf
    · exact .inr (.inl rfl)
    · exact h.oth f hf.1
theorem Gd.unnew {Ss : List (List Bs)} {P : List Bs} {q : Nat} {F : List Fe} (h : Gd Ss P q F) : Gd Ss P q (delF newB F) := by
  have hn : ∀ a, findF (nameS a) (delF newB F) = findF (nameS a) F := fun a => by rw [find_del h.nd, if_neg (name_new a)]
  refine ⟨del_nd h.nd _, h.m, h.sh, h.ph, fun i hi => by rw [hn]; exact h.ful i hi, h.ql, by rw [hn]; exact h.las, ?_, fun f hf => h.oth f ((del_mem h.nd _ f).1 hf).1⟩
  have := h.man
  rw [find_del h.nd, if_neg (show manB ≠ newB from man_new)]; exact this
/-- the last segment's file is another one -/
theorem Gd.last {Ss : List (List Bs)} {P P' : List Bs} {q q' : Nat} {F : List Fe} (h : Gd Ss P q F) (hP : ∀ p ∈ P', p.length ≤ 65536) (hq : q' ≤ P'.length) : Gd Ss P' q' (setF ⟨nameS (Ss.length + 1), encL P', wholeL (P'.take q')⟩ F) := by
  have hm := h.m
  refine ⟨set_nd h.nd _, h.m, h.sh, hP, fun i hi => ?_, hq, .inr ⟨_, by rw [find_set, if_pos rfl], rfl, rfl⟩, ?_, fun f hf => ?_⟩
  · rw [find_set, if_neg (name_ne (by omega) (by omega) (by omega))]; exact h.ful i hi
  · have := h.man
    rw [find_set, if_neg (show ¬ manB = nameS (Ss.length + 1) from fun e => name_man _ e.symm)]; exact this
  · rcases (set_mem h.nd _ f).1 hf with rfl | hf
    · exact .inr (.inr ⟨Ss.length + 1, by omega, Nat.le_refl _, rfl⟩)
    · exact h.oth f hf.1
/-- the next segment begins -/
theorem Gd.next {Ss : List (List Bs)} {P : List Bs} {F : List Fe} (h : Gd Ss P P.length F) (hP : P ≠ []) (hm : Ss.length + 1 < 100000) : Gd (Ss ++ [P]) [] 0 (setF ⟨manB, recP (le4 (Ss.length + 2)), (recP (le4 (Ss.length + 2))).length⟩ (delF newB F)) := by
  have h1 := h.unnew
  have hl : (Ss ++ [P]).length = Ss.length + 1 := by simp
  have hn : ∀ a, findF (nameS a) (setF ⟨manB, recP (le4 (Ss.length + 2)), (recP (le4 (Ss.length + 2))).length⟩ (delF newB F)) = findF (nameS a) (delF newB F) := fun a => by rw [find_set, if_neg (name_man a)]
  have hnone : findF (nameS (Ss.length + 2)) (delF newB F) = none := find_none fun f hf e => by
    rcases h1.oth f hf with h2 | h2 | ⟨i, h2, h3, h4⟩
    · exact name_man _ (e.symm.trans h2)
    · exact name_new _ (e.symm.trans h2)
    · exact name_ne (by omega) (by omega) (by omega) (h4.symm.trans e)
  refine ⟨set_nd h1.nd _, by omega, fun s hs => ?_, by simp, fun i hi => ?_, Nat.le_refl _, .inl ⟨rfl, by rw [hl, hn]; exact hnone⟩, ?_, fun f hf => ?_⟩
  · rcases List.mem_append.1 hs with hs | hs
    · exact h.sh s hs
    · obtain rfl := List.mem_singleton.1 hs; exact h.ph
  · rw [hn]
    by_cases hi2 : i < Ss.length
    · obtain ⟨f, e1, e2, e3⟩ := h1.ful i hi2
      exact ⟨f, e1, by rw [List.getElem_append_left hi2]; exact e2, e3⟩
    · obtain rfl : i = Ss.length := by omega
      rcases h1.las with ⟨e, _⟩ | ⟨f, e1, e2, e3⟩
      · exact absurd e hP
      · exact ⟨f, e1, by simpa using e2, by rw [e3, e2, List.take_length, enc_len]⟩
  · rw [hl, if_neg (by omega)]
    exact ⟨_, by rw [find_set, if_pos rfl], rfl, rfl⟩
  · rcases (set_mem h1.nd _ f).1 hf with rfl | hf
    · exact .inl rfl
    · rcases h1.oth f hf.1 with h2 | h2 | ⟨i, h2, h3, h4⟩
      · exact .inl h2
      · exact .inr (.inl h2)
      · exact .inr (.inr ⟨i, h2, by omega, h4⟩)
/-- the last segment is made sure -/
theorem Gd.synced {Ss : List (List Bs)} {P : List Bs} {q : Nat} {F : List Fe} (h : Gd Ss P q F) {f : Fe} (hf : findF (nameS (Ss.length + 1)) F = some f) : Gd Ss P P.length (setF ⟨nameS (Ss.length + 1), f.bs, f.bs.length⟩ F) := by
  rcases h.las with ⟨_, e⟩ | ⟨g, e1, e2, e3⟩
  · rw [hf] at e; cases e
  · obtain rfl := Option.some.inj (e1.symm.trans hf)
    have := h.last (P' := P) (q' := P.length) h.ph (Nat.le_refl _)
    rw [List.take_length, ← enc_len, ← e2] at this
    exact this
end Go.Proofs.YteamnhpplclmfaaGreatDoor
end
section
namespace Go.Proofs.YteamnhpplclmfaaGreatDoor
open Go.RowKit Go.Sx
set_option linter.unusedVariables false
theorem act_cases (D : Dk) (fs : List Fe) : ((actD D fs).2 = 0 ∧ (actD D fs).1.files = fs) ∨ ((actD D fs).2 = 4 ∧ (actD D fs).1.files = D.files) := by
  unfold actD
  split
  · exact .inl ⟨rfl, rfl⟩
  · exact .inr ⟨rfl, stepD_files D⟩
theorem append_eq (D : Dk) (n x : Bs) (hn : namedL n = true) : appendD D n x = if (D.quota : Int) - usedD D.files < x.length then (D, 3) else actD D (setF ⟨n, (match findF n D.files with | some f => f.bs | none => []) ++ x, match findF n D.files with | some f => f.sure | none => 0⟩ D.files) := by
  unfold appendD actD; rw [if_neg (by rw [hn]; decide)]; rfl
theorem sync_eq {D : Dk} {n : Bs} {f : Fe} (h : findF n D.files = some f) : syncD D n = actD D (setF ⟨n, f.bs, f.bs.length⟩ D.files) := by unfold syncD; rw [h]
theorem rename_eq {D : Dk} {n m : Bs} {f : Fe} (h : findF n D.files = some f) (hm : namedL m = true) : renameD D n m = actD D (setF ⟨m, f.bs, f.bs.length⟩ (delF n D.files)) := by unfold renameD; rw [h]; exact if_neg (by rw [hm]; decide)
/-- where a store goes on -/
structure Al (x : Pt) (Ss : List (List Bs)) (P : List Bs) (q : Nat) : Prop where
  g : Gd Ss P q x.D.files
  nn : findF newB x.D.files = none
  la : x.last = Ss.length + 1
  le : x.length = wholeL P
def cnt (Ss : List (List Bs)) (q : Nat) : Nat := Ss.flatten.length + q
theorem then_no {x : Dk × Nat} {f : Dk → Dk × Nat} (h : x.2 ≠ 0) : thenD x f = x := if_neg h
theorem then_ok {x : Dk × Nat} {f : Dk → Dk × Nat} (h : x.2 = 0) : thenD x f = f x.1 := if_pos h
theorem then_cases {x : Dk × Nat} {f : Dk → Dk × Nat} : (x.2 ≠ 0 ∧ thenD x f = x) ∨ (x.2 = 0 ∧ thenD x f = f x.1) := by
  by_cases h : x.2 = 0
  · exact .inr ⟨h, if_pos h⟩
  · exact .inl ⟨h, if_neg h⟩
theorem next_plain {D : Dk} {Ss : List (List Bs)} {P : List Bs} {q : Nat} (h : Gd Ss P q D.files) (hn : findF newB D.files = none) (hP : P ≠ []) (hm : Ss.length + 1 < 100000) :
    ((nextD D (Ss.length + 1)).2 ≠ 0 ∧ ∃ q', q ≤ q' ∧ Gd Ss P q' (nextD D (Ss.length + 1)).1.files) ∨ ((nextD D (Ss.length + 1)).2 = 0 ∧ Gd (Ss ++ [P]) [] 0 (nextD D (Ss.length + 1)).1.files ∧ findF newB (nextD D (Ss.length + 1)).1.files = none) := by
  obtain ⟨f, hf⟩ : ∃ f, findF (nameS (Ss.length + 1)) D.files = some f := by
    rcases h.las with ⟨e, _⟩ | ⟨f, e, _⟩
    · exact absurd e hP
    · exact ⟨f, e⟩
  have hql := h.ql
  obtain ⟨b, hb⟩ : ∃ b, b = recP (le4 (Ss.length + 2)) := ⟨_, rfl⟩
  have e0 : nextD D (Ss.length + 1) = thenD (thenD (thenD (syncD D (nameS (Ss.length + 1))) fun D => appendD D newB b) fun D => syncD D newB) fun D => renameD D newB manB := by rw [hb]; rfl
  have fall : ∀ x : Dk × Nat, x.2 ≠ 0 → (∃ q', q ≤ q' ∧ Gd Ss P q' x.1.files) → nextD D (Ss.length + 1) = x → ((nextD D (Ss.length + 1)).2 ≠ 0 ∧ ∃ q', q ≤ q' ∧ Gd Ss P q' (nextD D (Ss.length + 1)).1.files) := fun x h1 h2 h3 => by rw [h3]; exact ⟨h1, h2⟩
  rcases act_cases D (setF ⟨nameS (Ss.length + 1), f.bs, f.bs.length⟩ D.files) with ⟨c1, d1⟩ | ⟨c1, d1⟩
  case inr =>
    rw [← sync_eq hf] at c1 d1
    refine .inl (fall _ (by rw [c1]; decide) ⟨q, Nat.le_refl _, by rw [d1]; exact h⟩ ?_)
    have k : (syncD D (nameS (Ss.length + 1))).2 ≠ 0 := by rw [c1]; decide
    rw [e0, then_no k, then_no k, then_no k]
  rw [← sync_eq hf] at c1 d1
  have g1 := h.synced hf
  rw [← d1] at g1
  have n1 : findF newB (syncD D (nameS (Ss.length + 1))).1.files = none := by rw [d1, find_set, if_neg (show ¬ newB = nameS (Ss.length + 1) from fun e => name_new _ e.symm)]; exact hn
  obtain ⟨D1, hD1⟩ : ∃ D1, D1 = (syncD D (nameS (Ss.length + 1))).1 := ⟨_, rfl⟩
  rw [← hD1] at g1 n1
  have e1 : nextD D (Ss.length + 1) = thenD (thenD (appendD D1 newB b) fun D => syncD D newB) fun D => renameD D newB manB := by
    rw [e0, hD1, then_ok c1]
  have ea := append_eq D1 newB b named_new
  rw [n1] at ea
  by_cases hfull : (D1.quota : Int) - usedD D1.files < b.length
  · rw [if_pos hfull] at ea
    refine .inl (fall (D1, 3) (show 3 ≠ 0 by decide) ⟨P.length, hql, g1⟩ ?_)
    rw [e1, ea]; rfl
  rw [if_neg hfull] at ea
  rcases act_cases D1 (setF ⟨newB, [] ++ b, 0⟩ D1.files) with ⟨c2, d2⟩ | ⟨c2, d2⟩
  case inr =>
    rw [← ea] at c2 d2
    refine .inl (fall _ (by rw [c2]; decide) ⟨P.length, hql, by rw [d2]; exact g1⟩ ?_)
    have k : (appendD D1 newB b).2 ≠ 0 := by rw [c2]; decide
    rw [e1, then_no k, then_no k]
  rw [← ea] at c2 d2
  have g2 := g1.new ([] ++ b) 0
  rw [← d2] at g2
  have n2 : findF newB (appendD D1 newB b).1.files = some ⟨newB, b, 0⟩ := by rw [d2, find_set, if_pos rfl]; rfl
  obtain ⟨D2, hD2⟩ : ∃ D2, D2 = (appendD D1 newB b).1 := ⟨_, rfl⟩
  rw [← hD2] at g2 n2
  have e2 : nextD D (Ss.length + 1) = thenD (syncD D2 newB) fun D => renameD D newB manB := by
    rw [e1, hD2, then_ok c2]
  rcases act_cases D2 (setF ⟨newB, b, b.length⟩ D2.files) with ⟨c3, d3⟩ | ⟨c3, d3⟩
  case inr =>
    rw [← sync_eq n2] at c3 d3
    refine .inl (fall _ (by rw [c3]; decide) ⟨P.length, hql, by rw [d3]; exact g2⟩ ?_)
    have k : (syncD D2 newB).2 ≠ 0 := by rw [c3]; decide
    rw [e2, then_no k]
  rw [← sync_eq n2] at c3 d3
  have g3 := g2.new b b.length
  rw [← d3] at g3
  have n3 : findF newB (syncD D2 newB).1.files = some ⟨newB, b, b.length⟩ := by rw [d3, find_set, if_pos rfl]
  obtain ⟨D3, hD3⟩ : ∃ D3, D3 = (syncD D2 newB).1 := ⟨_, rfl⟩
  rw [← hD3] at g3 n3
  have e3 : nextD D (Ss.length + 1) = renameD D3 newB manB := by
    rw [e2, hD3, then_ok c3]
  have er := rename_eq (m := manB) n3 named_man
  rcases act_cases D3 (setF ⟨manB, b, b.length⟩ (delF newB D3.files)) with ⟨c4, d4⟩ | ⟨c4, d4⟩
  · rw [← er] at c4 d4
    rw [e3]
    refine .inr ⟨c4, ?_, ?_⟩
    · rw [d4, hb]; exact g3.next hP hm
    · rw [d4, find_set, if_neg (show ¬ newB = manB from fun e => man_new e.symm), find_del g3.nd, if_pos rfl]
  · rw [← er] at c4 d4
    exact .inl (fall _ (by rw [c4]; decide) ⟨P.length, hql, by rw [d4]; exact g3⟩ e3)
end Go.Proofs.YteamnhpplclmfaaGreatDoor
end
section
namespace Go.Proofs.YteamnhpplclmfaaGreatDoor
open Go.RowKit Go.Sx
set_option linter.unusedVariables false
theorem whole_pos {P : List Bs} (h : 0 < wholeL P) : P ≠ [] := by rintro rfl; simp [wholeL] at h
theorem go_plain {x : Pt} {Ss : List (List Bs)} {P : List Bs} {q : Nat} (h : Al x Ss P q) (hm : Ss.length + 1 < 100000) (size : Nat) (p : Bs) :
    ((goD size x p).2 ≠ 0 ∧ ∃ q', q ≤ q' ∧ Gd Ss P q' (goD size x p).1.D.files) ∨
    ((goD size x p).2 = 0 ∧ ∃ Ss' P' q', Al (goD size x p).1 Ss' P' q' ∧ Ss'.flatten ++ P' = Ss.flatten ++ P ∧ cnt Ss q ≤ cnt Ss' q' ∧ Ss'.length ≤ Ss.length + 1) := by
  unfold goD
  by_cases hb : begP size x.length (8 + p.length) = true
  · rw [if_pos hb, h.la]
    have hP : P ≠ [] := by
      unfold begP at hb
      rw [h.le] at hb
      simp only [Bool.and_eq_true, decide_eq_true_eq] at hb
      exact whole_pos hb.1
    have hql := h.g.ql
    rcases next_plain h.g h.nn hP hm with ⟨h1, q', h2, h3⟩ | ⟨h1, h2, h3⟩
    · rw [if_neg h1]
      exact .inl ⟨h1, q', h2, h3⟩
    · rw [if_pos h1]
      refine .inr ⟨rfl, Ss ++ [P], [], 0, ⟨h2, h3, by simp, rfl⟩, by simp, ?_, by simp⟩
      unfold cnt; simp; omega
  · rw [if_neg hb]
    exact .inr ⟨rfl, Ss, P, q, h, rfl, Nat.le_refl _, by omega⟩
theorem put_plain {x : Pt} {Ss : List (List Bs)} {P : List Bs} {q : Nat} (h : Al x Ss P q) (hm : Ss.length + 1 < 100000) (size : Nat) (p : Bs) (hp : p.length ≤ 65536) :
    ∃ Ss' P' q', Gd Ss' P' q' (putD size x p).1.D.files ∧ cnt Ss q ≤ cnt Ss' q' ∧ Ss'.length ≤ Ss.length + 1 ∧ (Ss'.flatten ++ P' = Ss.flatten ++ P ∨ Ss'.flatten ++ P' = Ss.flatten ++ P ++ [p]) ∧
      ((putD size x p).2 = 0 → Al (putD size x p).1 Ss' P' q' ∧ Ss'.flatten ++ P' = Ss.flatten ++ P ++ [p]) := by
  rcases go_plain h hm size p with ⟨h1, q', h2, h3⟩ | ⟨h1, Ss1, P1, q1, ha, ht, hc, hl⟩
  · have e : putD size x p = goD size x p := by unfold putD; rw [if_neg h1]
    rw [e]
    exact ⟨Ss, P, q', h3, by unfold cnt; omega, by omega, .inl rfl, fun h => absurd h h1⟩
  · have e : putD size x p = (⟨(appendD (goD size x p).1.D (nameS (goD size x p).1.last) (recP p)).1, (goD size x p).1.last, (goD size x p).1.length + (8 + p.length)⟩, (appendD (goD size x p).1.D (nameS (goD size x p).1.last) (recP p)).2) := by unfold putD; rw [if_pos h1]
    rw [e]
    generalize (goD size x p).1 = y at ha
    have hla := ha.la
    rw [hla]
    have stay : ∀ z : Dk, z.files = y.D.files → ∀ c : Nat, c ≠ 0 → ∃ Ss' P' q', Gd Ss' P' q' z.files ∧ cnt Ss q ≤ cnt Ss' q' ∧ Ss'.length ≤ Ss.length + 1 ∧ (Ss'.flatten ++ P' = Ss.flatten ++ P ∨ Ss'.flatten ++ P' = Ss.flatten ++ P ++ [p]) ∧ (c = 0 → Al ⟨z, Ss1.length + 1, y.length + (8 + p.length)⟩ Ss' P' q' ∧ Ss'.flatten ++ P' = Ss.flatten ++ P ++ [p]) := fun z hz c hc0 => ⟨Ss1, P1, q1, by rw [hz]; exact ha.g, hc, hl, .inl ht, fun h => absurd h hc0⟩
    have ea := append_eq y.D (nameS (Ss1.length + 1)) (recP p) (named_seg _)
    by_cases hfull : (y.D.quota : Int) - usedD y.D.files < (recP p).length
    · rw [if_pos hfull] at ea
      rw [ea]
      exact stay y.D rfl 3 (by decide)
    rw [if_neg hfull] at ea
    obtain ⟨q2, hq2, hset⟩ : ∃ q2, q2 ≤ (P1 ++ [p]).length ∧ q1 ≤ q2 ∧ setF ⟨nameS (Ss1.length + 1), (match findF (nameS (Ss1.length + 1)) y.D.files with | some f => f.bs | none => []) ++ recP p, match findF (nameS (Ss1.length + 1)) y.D.files with | some f => f.sure | none => 0⟩ y.D.files = setF ⟨nameS (Ss1.length + 1), encL (P1 ++ [p]), wholeL ((P1 ++ [p]).take q2)⟩ y.D.files := by
      have hql := ha.g.ql
      rcases ha.g.las with ⟨e1, e2⟩ | ⟨f, e1, e2, e3⟩
      · subst e1
        rw [e2]
        exact ⟨0, Nat.zero_le _, by simpa using hql, by rw [List.nil_append, List.nil_append, enc_one]; rfl⟩
      · rw [e1]
        refine ⟨q1, by simp; omega, Nat.le_refl _, ?_⟩
        show setF ⟨_, f.bs ++ recP p, f.sure⟩ _ = _
        rw [e2, e3, enc_app, enc_one, List.take_append_of_le_length hql]
    replace ea := ea.trans (congrArg (actD y.D) hset.2)
    have hP' : ∀ r ∈ P1 ++ [p], r.length ≤ 65536 := fun r hr => by
      rcases List.mem_append.1 hr with hr | hr
      · exact ha.g.ph r hr
      · obtain rfl := List.mem_singleton.1 hr; exact hp
    have hg := ha.g.last hP' hq2
    rcases act_cases y.D (setF ⟨nameS (Ss1.length + 1), encL (P1 ++ [p]), wholeL ((P1 ++ [p]).take q2)⟩ y.D.files) with ⟨c1, d1⟩ | ⟨c1, d1⟩
    · rw [← ea] at c1 d1
      have ht2 : Ss1.flatten ++ (P1 ++ [p]) = Ss.flatten ++ P ++ [p] := by rw [← List.append_assoc, ht]
      refine ⟨Ss1, P1 ++ [p], q2, by dsimp only; rw [d1]; exact hg, ?_, hl, .inr ht2, fun _ => ⟨⟨by dsimp only; rw [d1]; exact hg, ?_, rfl, ?_⟩, ht2⟩⟩
      · have := hset.1; unfold cnt at hc ⊢; omega
      · dsimp only
        rw [d1, find_set, if_neg (show ¬ newB = nameS (Ss1.length + 1) from fun e => name_new _ e.symm)]; exact ha.nn
      · show y.length + (8 + p.length) = _
        rw [whole_app, ha.le]
    · rw [← ea] at c1 d1
      exact stay _ d1 _ (by rw [c1]; decide)
theorem puts_plain {size : Nat} (ps : List Bs) (hps : ∀ p ∈ ps, p.length ≤ 65536) : ∀ {x : Pt} {Ss : List (List Bs)} {P : List Bs} {q : Nat}, Al x Ss P q → Ss.length + ps.length < 100000 →
    ∃ Ss' P' q' k, Gd Ss' P' q' (putsD size x ps).1.D.files ∧ cnt Ss q ≤ cnt Ss' q' ∧ Ss'.length ≤ Ss.length + ps.length ∧ Ss'.flatten ++ P' = Ss.flatten ++ P ++ ps.take k ∧
      ((putsD size x ps).2 = 0 → Al (putsD size x ps).1 Ss' P' q' ∧ Ss'.flatten ++ P' = Ss.flatten ++ P ++ ps) := by
  induction ps with
  | nil => exact fun {x Ss P q} h hm => ⟨Ss, P, q, 0, h.g, Nat.le_refl _, Nat.le_refl _, by simp, fun _ => ⟨h, by simp⟩⟩
  | cons p ps ih =>
    intro x Ss P q h hm
    simp only [List.length_cons] at hm ⊢
    obtain ⟨S1, P1, q1, g1, c1, l1, t1, a1⟩ := put_plain h (by omega) size p (hps p (by simp))
    rw [putsD]
    by_cases h0 : (putD size x p).2 = 0
    · rw [if_pos h0]
      obtain ⟨a2, t2⟩ := a1 h0
      obtain ⟨S2, P2, q2, k, g3, c3, l3, t3, a3⟩ := ih (fun r hr => hps r (by simp [hr])) a2 (by omega)
      refine ⟨S2, P2, q2, k + 1, g3, by omega, by omega, by rw [t3, t2, List.take_succ_cons]; simp, fun h => ?_⟩
      obtain ⟨b1, b2⟩ := a3 h
      exact ⟨b1, by rw [b2, t2]; simp⟩
    · rw [if_neg h0]
      rcases t1 with t1 | t1
      · exact ⟨S1, P1, q1, 0, g1, c1, by omega, by rw [t1]; simp, fun h => absurd h h0⟩
      · exact ⟨S1, P1, q1, 1, g1, c1, by omega, by rw [t1]; simp, fun h => absurd h h0⟩
end Go.Proofs.YteamnhpplclmfaaGreatDoor
end
section
namespace Go.Proofs.YteamnhpplclmfaaGreatDoor
open Go.RowKit Go.Sx
set_option linter.unusedVariables false
def Calm (D : Dk) : Prop := D.gone = false ∧ D.armed = false
theorem act_calm {D : Dk} (h : Calm D) (fs : List Fe) : (actD D fs).2 = 0 ∧ (actD D fs).1.files = fs ∧ Calm (actD D fs).1 ∧ (actD D fs).1.quota = D.quota := by
  have e : stepD D = (true, { D with left := if D.armed then D.left - 1 else D.left, steps := D.steps + 1 }) := by
    unfold stepD; rw [h.1, h.2]; rfl
  unfold actD
  rw [e]
  exact ⟨rfl, rfl, h, rfl⟩
/-- the files of a store but for the last segment -/
structure Gb (Ss : List (List Bs)) (F : List Fe) : Prop where
  nd : Nms F
  m : Ss.length < 100000
  sh : ∀ s ∈ Ss, ∀ p ∈ s, p.length ≤ 65536
  ful : ∀ i (h : i < Ss.length), ∃ f, findF (nameS (i + 1)) F = some f ∧ f.bs = encL Ss[i] ∧ f.sure = f.bs.length
  man : if Ss.length = 0 then findF manB F = none else ∃ f, findF manB F = some f ∧ f.bs = recP (le4 (Ss.length + 1)) ∧ f.sure = f.bs.length
  oth : ∀ f ∈ F, f.name = manB ∨ f.name = newB ∨ ∃ i, 1 ≤ i ∧ i ≤ Ss.length + 1 ∧ f.name = nameS i
theorem Gd.base {Ss : List (List Bs)} {P : List Bs} {q : Nat} {F : List Fe} (h : Gd Ss P q F) : Gb Ss F := ⟨h.nd, h.m, h.sh, h.ful, h.man, h.oth⟩
theorem Gb.unnew {Ss : List (List Bs)} {F : List Fe} (h : Gb Ss F) : Gb Ss (delF newB F) := by
  have hn : ∀ a, findF (nameS a) (delF newB F) = findF (nameS a) F := fun a => by rw [find_del h.nd, if_neg (name_new a)]
  refine ⟨del_nd h.nd _, h.m, h.sh, fun i hi => by rw [hn]; exact h.ful i hi, ?_, fun f hf => h.oth f ((del_mem h.nd _ f).1 hf).1⟩
  have := h.man
  rw [find_del h.nd, if_neg (show manB ≠ newB from man_new)]; exact this
theorem Gb.set {Ss : List (List Bs)} {F : List Fe} (h : Gb Ss F) (bs : Bs) (s : Nat) : Gb Ss (setF ⟨nameS (Ss.length + 1), bs, s⟩ F) := by
  have hm := h.m
  refine ⟨set_nd h.nd _, h.m, h.sh, fun i hi => ?_, ?_, fun f hf => ?_⟩
  · rw [find_set, if_neg (name_ne (by omega) (by omega) (by omega))]; exact h.ful i hi
  · have := h.man
    rw [find_set, if_neg (show ¬ manB = nameS (Ss.length + 1) from fun e => name_man _ e.symm)]; exact this
  · rcases (set_mem h.nd _ f).1 hf with rfl | hf
    · exact .inr (.inr ⟨Ss.length + 1, by omega, Nat.le_refl _, rfl⟩)
    · exact h.oth f hf.1
theorem crash_full {k : Int} {f : Fe} (h : f.sure = f.bs.length) : (crashF k f).bs = f.bs ∧ (crashF k f).sure = f.bs.length := by
  unfold crashF
  rw [h, Nat.sub_self, Nat.min_zero, Nat.add_zero, List.take_length]
  exact ⟨rfl, rfl⟩
theorem Gb.crash {Ss : List (List Bs)} {F : List Fe} (h : Gb Ss F) (k : Int) : Gb Ss (F.map (crashF k)) := by
  refine ⟨?_, h.m, h.sh, fun i hi => ?_, ?_, fun f hf => ?_⟩
  · rw [Nms, List.map_map, show ((·.name) ∘ crashF k : Fe → List UInt8) = (·.name) from rfl]; exact h.nd
  · obtain ⟨f, e1, e2, e3⟩ := h.ful i hi
    obtain ⟨c1, c2⟩ := crash_full (k := k) e3
    exact ⟨crashF k f, by rw [find_crashF, e1]; rfl, by rw [c1, e2], by rw [c1, c2]⟩
  · have hm := h.man
    split
    · rename_i h0
      rw [if_pos h0] at hm
      rw [find_crashF, hm]; rfl
    · rename_i h0
      rw [if_neg h0] at hm
      obtain ⟨f, e1, e2, e3⟩ := hm
      obtain ⟨c1, c2⟩ := crash_full (k := k) e3
      exact ⟨crashF k f, by rw [find_crashF, e1]; rfl, by rw [c1, e2], by rw [c1, c2]⟩
  · obtain ⟨g, hg, rfl⟩ := List.mem_map.1 hf
    exact h.oth g hg
/-- the last segment behind a crash -/
def LastC (Ss : List (List Bs)) (P : List Bs) (q : Nat) (F : List Fe) : Prop := (P = [] ∧ findF (nameS (Ss.length + 1)) F = none) ∨ ∃ f n, findF (nameS (Ss.length + 1)) F = some f ∧ f.bs = (encL P).take n ∧ n ≤ (encL P).length ∧ wholeL (P.take q) ≤ n
theorem last_crash {Ss : List (List Bs)} {P : List Bs} {q : Nat} {F : List Fe} (h : Gd Ss P q F) (k : Int) : LastC Ss P q (F.map (crashF k)) := by
  rcases h.las with ⟨e1, e2⟩ | ⟨f, e1, e2, e3⟩
  · exact .inl ⟨e1, by rw [find_crashF, e2]; rfl⟩
  · have hw : wholeL (P.take q) ≤ f.bs.length := by
      have : wholeL P = wholeL (P.take q) + wholeL (P.drop q) := by rw [← whole_appL, List.take_append_drop]
      rw [e2, enc_len]; omega
    exact .inr ⟨crashF k f, f.sure + min k.toNat (f.bs.length - f.sure), by rw [find_crashF, e1]; rfl, by show f.bs.take _ = _; rw [e2], by rw [← e2]; omega, by omega⟩
theorem drops_none {b : Bs} {l : List Bs} (h : ∀ f ∈ l, (List.isPrefixOf [115, 101, 103, 45] f && decide (b < f)) = false) : ∀ x, dropsD b x l = x := by
  induction l with
  | nil => exact fun x => rfl
  | cons f l ih =>
    intro x
    rw [dropsD, h f (by simp), if_neg (by decide)]
    exact ih (fun g hg => h g (by simp [hg])) x
theorem Gb.stay {Ss : List (List Bs)} {F : List Fe} (h : Gb Ss F) {f : Bs} (hf : f ∈ sortT (F.map (·.name))) : (List.isPrefixOf [115, 101, 103, 45] f && decide (nameS (Ss.length + 1) < f)) = false := by
  have hm := h.m
  obtain ⟨g, hg, rfl⟩ := List.mem_map.1 ((sortT_perm _).mem_iff.1 hf)
  rcases h.oth g hg with e | e | ⟨i, h1, h2, e⟩
  · rw [e]; rfl
  · rw [e]; rfl
  · rw [e, pre_seg, Bool.true_and]
    refine decide_eq_false fun hlt => ?_
    rcases Nat.lt_or_ge i (Ss.length + 1) with h3 | h3
    · exact List.lt_irrefl _ (List.lt_trans hlt (name_lt (by omega) h3))
    · obtain rfl : i = Ss.length + 1 := by omega
      exact List.lt_irrefl _ hlt
end Go.Proofs.YteamnhpplclmfaaGreatDoor
end
section
namespace Go.Proofs.YteamnhpplclmfaaGreatDoor
open Go.RowKit Go.Sx
set_option linter.unusedVariables false
theorem cut_eq {D : Dk} {n : Bs} {f : Fe} (h : findF n D.files = some f) (z : Nat) (hz : z ≤ f.bs.length) : cutD D n (z : Nat) = actD D (setF ⟨n, f.bs.take z, min f.sure z⟩ D.files) := by
  unfold cutD; rw [h]; exact if_neg (by omega)
theorem whole_take (P : List Bs) (j : Nat) : wholeL P = wholeL (P.take j) + wholeL (P.drop j) := by rw [← whole_appL, List.take_append_drop]
theorem enc_take (P : List Bs) (j : Nat) : (encL P).take (wholeL (P.take j)) = encL (P.take j) := by
  have e : encL P = encL (P.take j) ++ encL (P.drop j) := by rw [← enc_app, List.take_append_drop]
  rw [e, ← enc_len, List.take_left]
/-- the last segment is read -/
theorem load_last_plain {x : Ld} {Ss : List (List Bs)} {P : List Bs} {q : Nat} (hb : Gb Ss x.D.files) (hl : LastC Ss P q x.D.files) (hP : ∀ p ∈ P, p.length ≤ 65536) (hq : q ≤ P.length) (hc : Calm x.D) (hnn : findF newB x.D.files = none) (h0 : x.length = 0) :
    ∃ j, q ≤ j ∧ j ≤ P.length ∧ (loadD x (Ss.length + 1) (Ss.length + 1)).2 = 0 ∧ (loadD x (Ss.length + 1) (Ss.length + 1)).1.pl = x.pl ++ P.take j ∧ (loadD x (Ss.length + 1) (Ss.length + 1)).1.length = wholeL (P.take j) ∧
      Gd Ss (P.take j) j (loadD x (Ss.length + 1) (Ss.length + 1)).1.D.files ∧ Calm (loadD x (Ss.length + 1) (Ss.length + 1)).1.D ∧ findF newB (loadD x (Ss.length + 1) (Ss.length + 1)).1.D.files = none ∧ (loadD x (Ss.length + 1) (Ss.length + 1)).1.D.quota = x.D.quota := by
  rcases hl with ⟨rfl, e2⟩ | ⟨f, n, e1, e2, e3, e4⟩
  · have e : loadD x (Ss.length + 1) (Ss.length + 1) = (x, 0) := by unfold loadD; rw [e2]; simp
    have hq0 : q = 0 := by simpa using hq
    rw [e]
    exact ⟨0, by omega, Nat.le_refl _, rfl, by simp, by simpa [wholeL] using h0, ⟨hb.nd, hb.m, hb.sh, by simp, hb.ful, Nat.zero_le _, .inl ⟨rfl, e2⟩, hb.man, hb.oth⟩, hc, hnn, rfl⟩
  · obtain ⟨j, j1, j2, j3, j4⟩ := recs_torn P hP n
    have hbl : f.bs.length = n := by rw [e2, List.length_take]; omega
    have hrec : recsP f.bs = P.take j := by rw [e2]; exact j2
    have hwh : wholeP f.bs = wholeL (P.take j) := by unfold wholeP; rw [hrec]
    obtain ⟨X, hX⟩ : ∃ X, X = thenD (if wholeP f.bs < f.bs.length then cutD x.D (nameS (Ss.length + 1)) (wholeP f.bs : Nat) else (x.D, 0)) (fun D => syncD D (nameS (Ss.length + 1))) := ⟨_, rfl⟩
    have e : loadD x (Ss.length + 1) (Ss.length + 1) = (⟨X.1, x.pl ++ recsP f.bs, wholeP f.bs⟩, X.2) := by
      unfold loadD
      rw [e1]
      dsimp only
      rw [if_neg (by rw [hc.1]; decide), if_neg (Nat.lt_irrefl _), hX]
    have key : X.2 = 0 ∧ X.1.files = setF ⟨nameS (Ss.length + 1), encL (P.take j), wholeL (P.take j)⟩ X.1.files ∧ Gb Ss X.1.files ∧ findF (nameS (Ss.length + 1)) X.1.files = some ⟨nameS (Ss.length + 1), encL (P.take j), wholeL (P.take j)⟩ ∧ Calm X.1 ∧ findF newB X.1.files = none ∧ X.1.quota = x.D.quota := by
      have hset : ∀ (F : List Fe) (f : Fe), findF f.name F = some f → F = setF f F := by
        intro F f
        induction F with
        | nil => intro h; cases h
        | cons g l ih =>
          intro h
          rw [findF] at h
          rw [setF]
          split at h
          · rename_i h1; rw [if_pos h1, Option.some.inj h]
          · rename_i h1; rw [if_neg h1, ← ih h]
      have hnw : ∀ (F : List Fe) b s, findF newB F = none → findF newB (setF ⟨nameS (Ss.length + 1), b, s⟩ F) = none := fun F b s h => by rw [find_set, if_neg (show ¬ newB = nameS (Ss.length + 1) from fun e => name_new _ e.symm)]; exact h
      by_cases hlt : wholeP f.bs < f.bs.length
      · rw [if_pos hlt] at hX
        have c1 := act_calm hc (setF ⟨nameS (Ss.length + 1), f.bs.take (wholeP f.bs), min f.sure (wholeP f.bs)⟩ x.D.files)
        rw [← cut_eq e1 _ (by omega)] at c1
        obtain ⟨a1, a2, a3, a4⟩ := c1
        rw [then_ok a1] at hX
        have ht : f.bs.take (wholeP f.bs) = encL (P.take j) := by
          rw [hwh, e2, List.take_take, Nat.min_eq_left j3, enc_take]
        rw [ht] at a2
        have hf2 : findF (nameS (Ss.length + 1)) (cutD x.D (nameS (Ss.length + 1)) (wholeP f.bs : Nat)).1.files = some ⟨nameS (Ss.length + 1), encL (P.take j), min f.sure (wholeP f.bs)⟩ := by rw [a2, find_set, if_pos rfl]
        have c2 := act_calm a3 (setF ⟨nameS (Ss.length + 1), encL (P.take j), (encL (P.take j)).length⟩ (cutD x.D (nameS (Ss.length + 1)) (wholeP f.bs : Nat)).1.files)
        rw [← sync_eq hf2, ← hX] at c2
        obtain ⟨b1, b2, b3, b4⟩ := c2
        rw [enc_len] at b2
        have hfn : findF (nameS (Ss.length + 1)) X.1.files = some ⟨nameS (Ss.length + 1), encL (P.take j), wholeL (P.take j)⟩ := by rw [b2, find_set, if_pos rfl]
        refine ⟨b1, hset _ _ hfn, by rw [b2, a2]; exact (hb.set _ _).set _ _, hfn, b3, by rw [b2, a2]; exact hnw _ _ _ (hnw _ _ _ hnn), by rw [b4, a4]⟩
      · rw [if_neg hlt] at hX
        have hfull : f.bs = encL (P.take j) := by
          have h1 : wholeL (P.take j) = n := by omega
          rw [e2, ← h1, enc_take]
        rw [then_ok rfl] at hX
        have c2 := act_calm hc (setF ⟨nameS (Ss.length + 1), f.bs, f.bs.length⟩ x.D.files)
        rw [← sync_eq e1, ← hX] at c2
        obtain ⟨b1, b2, b3, b4⟩ := c2
        rw [hfull, enc_len] at b2
        have hfn : findF (nameS (Ss.length + 1)) X.1.files = some ⟨nameS (Ss.length + 1), encL (P.take j), wholeL (P.take j)⟩ := by rw [b2, find_set, if_pos rfl]
        exact ⟨b1, hset _ _ hfn, by rw [b2]; exact hb.set _ _, hfn, b3, by rw [b2]; exact hnw _ _ _ hnn, b4⟩
    obtain ⟨k1, k2, k3, k4, k5, k6, k7⟩ := key
    rw [e, hrec, hwh]
    have htl : (P.take j).length = j := by rw [List.length_take]; omega
    refine ⟨j, j4 q hq e4, j1, k1, rfl, rfl, ⟨k3.nd, k3.m, k3.sh, fun p hp => hP p (List.mem_of_mem_take hp), k3.ful, by rw [htl]; exact Nat.le_refl _, .inr ⟨_, k4, rfl, by rw [List.take_take, Nat.min_self]⟩, k3.man, k3.oth⟩, k5, k6, k7⟩
/-- the segments from one on are read -/
theorem loads_plain {D : Dk} {Ss : List (List Bs)} (hb : Gb Ss D.files) (hc : Calm D) : ∀ (k n : Nat), n + k = Ss.length + 1 → 1 ≤ n → loadsD (k + 1) ⟨D, (Ss.take (n - 1)).flatten, 0⟩ (Ss.length + 1) n = loadsD 1 ⟨D, Ss.flatten, 0⟩ (Ss.length + 1) (Ss.length + 1) := by
  intro k
  induction k with
  | zero =>
    intro n h1 h2
    obtain rfl : n = Ss.length + 1 := by omega
    rw [Nat.add_sub_cancel, List.take_length]
  | succ k ih =>
    intro n h1 h2
    have hlt : n - 1 < Ss.length := by omega
    obtain ⟨f, e1, e2, e3⟩ := hb.ful (n - 1) hlt
    rw [show n - 1 + 1 = n by omega] at e1
    have hs := hb.sh Ss[n - 1] (List.getElem_mem hlt)
    have htk : (Ss.take n).flatten = (Ss.take (n - 1)).flatten ++ Ss[n - 1] := by
      have h3 := List.take_succ_eq_append_getElem hlt
      rw [show n - 1 + 1 = n by omega] at h3
      rw [h3, List.flatten_append, List.flatten_cons, List.flatten_nil, List.append_nil]
    have e : loadD ⟨D, (Ss.take (n - 1)).flatten, 0⟩ (Ss.length + 1) n = (⟨D, (Ss.take n).flatten, 0⟩, 0) := by
      unfold loadD
      rw [show (⟨D, (Ss.take (n - 1)).flatten, 0⟩ : Ld).D = D from rfl, e1]
      dsimp only
      rw [if_neg (by rw [hc.1]; decide), if_pos (by omega), e2, whole_enc _ hs, if_neg (Nat.lt_irrefl _), recs_all _ hs]
      rw [htk]
    rw [loadsD_step, e, if_pos rfl]
    have := ih (n + 1) (by omega) (by omega)
    rw [Nat.add_sub_cancel] at this
    exact this
/-- a disk that holds a store, behind a crash, is opened -/
theorem open_plain {D : Dk} {Ss : List (List Bs)} {P : List Bs} {q : Nat} (hg : Gd Ss P q D.files) (keep : Int) (size : Nat) :
    ∃ j, q ≤ j ∧ j ≤ P.length ∧ (openP (crashD D keep) size).code = 0 ∧ (openP (crashD D keep) size).S = ⟨size, Ss.flatten ++ P.take j, (Ss.flatten ++ P.take j).length, Ss.length + 1, wholeL (P.take j), 0⟩ ∧
      Gd Ss (P.take j) j (openP (crashD D keep) size).D.files ∧ Calm (openP (crashD D keep) size).D ∧ findF newB (openP (crashD D keep) size).D.files = none ∧ (openP (crashD D keep) size).D.quota = D.quota := by
  obtain ⟨C, hC⟩ : ∃ C, C = crashD D keep := ⟨_, rfl⟩
  rw [← hC]
  have hcalm : Calm C := by rw [hC]; exact ⟨rfl, rfl⟩
  have hb0 : Gb Ss C.files := by rw [hC]; exact hg.base.crash keep
  have hl0 : LastC Ss P q C.files := by rw [hC]; exact last_crash hg keep
  have hquo : C.quota = D.quota := by rw [hC]; rfl
  -- the file that was being made goes
  obtain ⟨D1, d1, d2, d3, d4, d5, d6⟩ : ∃ D1, dr1 C = (D1, 0) ∧ Gb Ss D1.files ∧ LastC Ss P q D1.files ∧ Calm D1 ∧ findF newB D1.files = none ∧ D1.quota = D.quota := by
    unfold dr1
    cases hh : hasD C newB with
    | false =>
      refine ⟨C, by simp, hb0, hl0, hcalm, ?_, hquo⟩
      unfold hasD at hh
      cases hf : findF newB C.files with
      | none => rfl
      | some f => rw [hf] at hh; cases hh
    | true =>
      obtain ⟨f, hf⟩ := has_read hh
      have c := act_calm hcalm (delF newB C.files)
      have e : dropD C newB = actD C (delF newB C.files) := by unfold dropD; rw [hf]
      rw [← e] at c
      obtain ⟨c1, c2, c3, c4⟩ := c
      refine ⟨(dropD C newB).1, by rw [if_pos rfl, ← c1], by rw [c2]; exact hb0.unnew, ?_, c3, by rw [c2, find_del hb0.nd, if_pos rfl], by rw [c4, hquo]⟩
      rw [c2]
      unfold LastC
      rw [find_del hb0.nd, if_neg (name_new _)]
      exact hl0
  have hm := hb0.m
  have hL : mfL (dr1 C) = Ss.length + 1 ∧ mfC (dr1 C) = 0 := by
    rw [d1]
    have hman := d2.man
    by_cases h0 : Ss.length = 0
    · rw [if_pos h0] at hman
      have hh : hasD D1 manB = false := by unfold hasD; rw [hman]; rfl
      exact ⟨by unfold mfL; rw [if_neg (by rw [hh]; simp), h0], by unfold mfC; rw [if_neg (by rw [hh]; simp)]⟩
    · rw [if_neg h0] at hman
      obtain ⟨f, e1, e2, e3⟩ := hman
      have hh : hasD D1 manB = true := by unfold hasD; rw [e1]; rfl
      have hr : readD D1 manB = (f.bs, 0) := by unfold readD; rw [if_neg (by rw [d4.1]; decide), e1]
      have ht : toldP f.bs = Ss.length + 1 := by rw [e2]; exact told_rec _ (by omega) (by omega)
      exact ⟨by unfold mfL; rw [if_pos ⟨hh, rfl⟩, hr, ht], by unfold mfC; rw [if_pos ⟨hh, rfl⟩, hr, ht, if_neg (by simp)]⟩
  obtain ⟨hL1, hL2⟩ := hL
  have hall : ldOf C = loadsD 1 ⟨D1, Ss.flatten, 0⟩ (Ss.length + 1) (Ss.length + 1) := by
    unfold ldOf ldAll
    rw [hL1, hL2, if_pos rfl, d1]
    exact loads_plain d2 d4 Ss.length 1 (by omega) (Nat.le_refl _)
  obtain ⟨j, j1, j2, a1, a2, a3, a4, a5, a6, a7⟩ := load_last_plain (x := ⟨D1, Ss.flatten, 0⟩) d2 d3 hg.ph hg.ql d4 d5 rfl
  have hone : loadsD 1 ⟨D1, Ss.flatten, 0⟩ (Ss.length + 1) (Ss.length + 1) = loadD ⟨D1, Ss.flatten, 0⟩ (Ss.length + 1) (Ss.length + 1) := by
    rw [loadsD_step, if_pos a1]
    exact Prod.ext rfl a1.symm
  rw [hone] at hall
  have hdr := drops_none (b := nameS (Ss.length + 1)) (l := sortT ((ldOf C).1.D.files.map (·.name))) (fun f hf => by rw [hall] at hf; exact a4.base.stay hf) ((ldOf C).1.D, (ldOf C).2)
  refine ⟨j, j1, j2, ?_⟩
  unfold openP
  rw [hL1, hdr, hall]
  refine ⟨a1, ?_, a4, a5, a6, by rw [a7]; exact d6⟩
  dsimp only
  rw [a2, a3]
end Go.Proofs.YteamnhpplclmfaaGreatDoor
end
section
namespace Go.Proofs.YteamnhpplclmfaaGreatDoor
open Go.RowKit Go.Sx
set_option linter.unusedVariables false
theorem len_set_ne {n : Bs} {f : Fe} {fs : List Fe} (h : ¬ n = f.name) : lenF n (setF f fs) = lenF n fs := by unfold lenF; rw [find_set, if_neg h]
theorem used_same {fs : List Fe} {n : Bs} {f : Fe} (h : findF n fs = some f) (s : Nat) : usedD (setF ⟨n, f.bs, s⟩ fs) = usedD fs := by
  have h1 := used_set ⟨n, f.bs, s⟩ fs
  have h2 : lenF n fs = f.bs.length := lenF_some h
  dsimp only at h1
  omega
theorem append_ok {D : Dk} {n x : Bs} (hc : Calm D) (hn : namedL n = true) (hq : usedD D.files + x.length ≤ D.quota) : (appendD D n x).2 = 0 ∧ Calm (appendD D n x).1 ∧ usedD (appendD D n x).1.files = usedD D.files + x.length ∧ (appendD D n x).1.quota = D.quota ∧ ∀ m, ¬ m = n → findF m (appendD D n x).1.files = findF m D.files := by
  have e := append_eq D n x hn
  rw [if_neg (by omega)] at e
  obtain ⟨a1, a2, a3, a4⟩ := act_calm hc (setF ⟨n, (match findF n D.files with | some f => f.bs | none => []) ++ x, match findF n D.files with | some f => f.sure | none => 0⟩ D.files)
  have b1 := (congrArg Prod.snd e).trans a1
  have b2 := (congrArg (fun z => z.1.files) e).trans a2
  have b3 : Calm (appendD D n x).1 := by have := congrArg (fun z : Dk × Nat => z.1) e; exact (show (appendD D n x).1 = _ from this) ▸ a3
  have b4 := (congrArg (fun z => z.1.quota) e).trans a4
  refine ⟨b1, b3, ?_, b4, fun m hm => ?_⟩
  · have b2' : (appendD D n x).1.files = _ := b2
    rw [b2']
    have h1 := used_set ⟨n, (match findF n D.files with | some f => f.bs | none => []) ++ x, match findF n D.files with | some f => f.sure | none => 0⟩ D.files
    dsimp only at h1
    rw [List.length_append] at h1
    have h2 : (match findF n D.files with | some f => f.bs | none => ([] : Bs)).length = lenF n D.files := by
      unfold lenF; cases findF n D.files <;> rfl
    rw [h2] at h1
    omega
  · have b2' : (appendD D n x).1.files = _ := b2
    rw [b2', find_set, if_neg hm]
theorem next_ok {D : Dk} {Ss : List (List Bs)} {P : List Bs} {q : Nat} (h : Gd Ss P q D.files) (hn : findF newB D.files = none) (hP : P ≠ []) (hm : Ss.length + 1 < 100000) (hc : Calm D) (hq : usedD D.files + 12 ≤ D.quota) :
    (nextD D (Ss.length + 1)).2 = 0 ∧ Calm (nextD D (Ss.length + 1)).1 ∧ usedD (nextD D (Ss.length + 1)).1.files + lenF manB D.files = usedD D.files + 12 ∧ (nextD D (Ss.length + 1)).1.quota = D.quota ∧ lenF manB (nextD D (Ss.length + 1)).1.files = 12 := by
  obtain ⟨f, hf⟩ : ∃ f, findF (nameS (Ss.length + 1)) D.files = some f := by
    rcases h.las with ⟨e, _⟩ | ⟨f, e, _⟩
    · exact absurd e hP
    · exact ⟨f, e⟩
  obtain ⟨b, hb⟩ : ∃ b, b = recP (le4 (Ss.length + 2)) := ⟨_, rfl⟩
  have hbl : b.length = 12 := by rw [hb, rec_len]; rfl
  have e0 : nextD D (Ss.length + 1) = thenD (thenD (thenD (syncD D (nameS (Ss.length + 1))) fun D => appendD D newB b) fun D => syncD D newB) fun D => renameD D newB manB := by rw [hb]; rfl
  obtain ⟨a1, a2, a3, a4⟩ := act_calm hc (setF ⟨nameS (Ss.length + 1), f.bs, f.bs.length⟩ D.files)
  rw [← sync_eq hf] at a1 a2 a3 a4
  have u1 : usedD (syncD D (nameS (Ss.length + 1))).1.files = usedD D.files := by rw [a2]; exact used_same hf _
  have g1 : Gd Ss P P.length (syncD D (nameS (Ss.length + 1))).1.files := by rw [a2]; exact h.synced hf
  have n1 : findF newB (syncD D (nameS (Ss.length + 1))).1.files = none := by rw [a2, find_set, if_neg (show ¬ newB = nameS (Ss.length + 1) from fun e => name_new _ e.symm)]; exact hn
  have m1 : lenF manB (syncD D (nameS (Ss.length + 1))).1.files = lenF manB D.files := by rw [a2]; exact len_set_ne (fun e => name_man _ e.symm)
  rw [e0, then_ok a1]
  generalize (syncD D (nameS (Ss.length + 1))).1 = D1 at *
  have ea := append_eq D1 newB b named_new
  rw [n1, if_neg (by omega)] at ea
  obtain ⟨b1, b2, b3, b4⟩ := act_calm a3 (setF ⟨newB, [] ++ b, 0⟩ D1.files)
  rw [← ea] at b1 b2 b3 b4
  have g2 := g1.new ([] ++ b) 0
  rw [← b2] at g2
  have n2 : findF newB (appendD D1 newB b).1.files = some ⟨newB, b, 0⟩ := by rw [b2, find_set, if_pos rfl]; rfl
  have u2 : usedD (appendD D1 newB b).1.files = usedD D1.files + 12 := by
    rw [b2]
    have h1 := used_set ⟨newB, [] ++ b, 0⟩ D1.files
    have h2 : lenF newB D1.files = 0 := lenF_none n1
    dsimp only at h1
    rw [List.nil_append, hbl] at h1
    rw [List.nil_append]
    omega
  have m2 : lenF manB (appendD D1 newB b).1.files = lenF manB D1.files := by rw [b2]; exact len_set_ne man_new
  rw [then_ok b1]
  generalize (appendD D1 newB b).1 = D2 at *
  obtain ⟨c1, c2, c3, c4⟩ := act_calm b3 (setF ⟨newB, b, b.length⟩ D2.files)
  rw [← sync_eq n2] at c1 c2 c3 c4
  have u3 : usedD (syncD D2 newB).1.files = usedD D2.files := by rw [c2]; exact used_same n2 _
  have g3 := g2.new b b.length
  rw [← c2] at g3
  have n3 : findF newB (syncD D2 newB).1.files = some ⟨newB, b, b.length⟩ := by rw [c2, find_set, if_pos rfl]
  have m3 : lenF manB (syncD D2 newB).1.files = lenF manB D2.files := by rw [c2]; exact len_set_ne man_new
  rw [then_ok c1]
  generalize (syncD D2 newB).1 = D3 at *
  obtain ⟨d1, d2, d3, d4⟩ := act_calm c3 (setF ⟨manB, b, b.length⟩ (delF newB D3.files))
  rw [← rename_eq (m := manB) n3 named_man] at d1 d2 d3 d4
  refine ⟨d1, d3, ?_, by rw [d4, c4, b4, a4], ?_⟩
  · rw [d2]
    have h1 := used_set ⟨manB, b, b.length⟩ (delF newB D3.files)
    have h2 := used_del newB D3.files
    have h3 : lenF newB D3.files = 12 := by rw [lenF_some n3]; exact hbl
    have h4 : lenF manB (delF newB D3.files) = lenF manB D3.files := by unfold lenF; rw [find_del g3.nd, if_neg man_new]
    dsimp only at h1
    rw [h4, hbl] at h1
    rw [hbl]
    omega
  · rw [d2]
    unfold lenF
    rw [find_set, if_pos rfl]; exact hbl
theorem man_le {Ss : List (List Bs)} {P : List Bs} {q : Nat} {F : List Fe} (h : Gd Ss P q F) : lenF manB F ≤ 12 := by
  have := h.man
  unfold lenF
  split at this
  · rw [this]; exact Nat.zero_le _
  · obtain ⟨f, e1, e2, _⟩ := this
    rw [e1]
    show f.bs.length ≤ 12
    rw [e2, rec_len]; show 8 + 4 ≤ 12; decide
theorem need_lin {size : Nat} (ps : List Bs) : ∀ (n len : Nat) (beg : Bool), (needF size (n, len, beg) ps).1 = n + (needF size (0, len, false) ps).1 ∧ (needF size (n, len, beg) ps).2.2 = (beg || (needF size (0, len, false) ps).2.2) := by
  induction ps with
  | nil => intro n len beg; simp [needF]
  | cons p ps ih =>
    intro n len beg
    rw [need_step, need_step]
    have h1 := ih (n + (8 + p.length)) ((if begP size len (8 + p.length) = true then 0 else len) + (8 + p.length)) (beg || begP size len (8 + p.length))
    have h2 := ih (0 + (8 + p.length)) ((if begP size len (8 + p.length) = true then 0 else len) + (8 + p.length)) (false || begP size len (8 + p.length))
    rw [h1.1, h1.2, h2.1, h2.2]
    exact ⟨by omega, by rw [Bool.false_or, Bool.or_assoc]⟩
/-- there is room: all is put -/
theorem puts_ok {size : Nat} (ps : List Bs) (hps : ∀ p ∈ ps, p.length ≤ 65536) : ∀ {x : Pt} {Ss : List (List Bs)} {P : List Bs} {q : Nat}, Al x Ss P q → Ss.length + ps.length < 100000 → Calm x.D →
    usedD x.D.files + (needF size (0, x.length, false) ps).1 + (if (needF size (0, x.length, false) ps).2.2 = true then 24 - lenF manB x.D.files else 0) ≤ x.D.quota → (putsD size x ps).2 = 0 ∧ Calm (putsD size x ps).1.D ∧ (putsD size x ps).1.D.quota = x.D.quota ∧ usedD (putsD size x ps).1.D.files ≤ usedD x.D.files + (needF size (0, x.length, false) ps).1 + 24 - lenF manB x.D.files := by
  induction ps with
  | nil => exact fun {x Ss P q} h _ hc _ => ⟨rfl, hc, rfl, by have := man_le h.g; show usedD x.D.files ≤ usedD x.D.files + 0 + 24 - _; omega⟩
  | cons p ps ih =>
    intro x Ss P q h hm hc hq
    simp only [List.length_cons] at hm
    have hml := man_le h.g
    rw [need_step] at hq ⊢
    have hlin := need_lin (size := size) ps (0 + (8 + p.length)) ((if begP size x.length (8 + p.length) = true then 0 else x.length) + (8 + p.length)) (false || begP size x.length (8 + p.length))
    rw [hlin.1, hlin.2] at hq
    rw [hlin.1]
    obtain ⟨N', hN'⟩ : ∃ N', N' = needF size (0, (if begP size x.length (8 + p.length) = true then 0 else x.length) + (8 + p.length), false) ps := ⟨_, rfl⟩
    rw [← hN'] at hq ⊢
    have hpp := hps p (by simp)
    -- the segment that it goes to
    have hgo : (goD size x p).2 = 0 ∧ Calm (goD size x p).1.D ∧ (goD size x p).1.D.quota = x.D.quota ∧ (goD size x p).1.length = (if begP size x.length (8 + p.length) = true then 0 else x.length) ∧
        usedD (goD size x p).1.D.files + (8 + p.length) + N'.1 + (if N'.2.2 = true then 24 - lenF manB (goD size x p).1.D.files else 0) ≤ x.D.quota ∧ usedD (goD size x p).1.D.files + 24 - lenF manB (goD size x p).1.D.files ≤ usedD x.D.files + 24 - lenF manB x.D.files := by
      unfold goD
      by_cases hb : begP size x.length (8 + p.length) = true
      · have hP : P ≠ [] := by
          unfold begP at hb
          rw [h.le] at hb
          simp only [Bool.and_eq_true, decide_eq_true_eq] at hb
          exact whole_pos hb.1
        rw [hb] at hq
        simp only [Bool.false_or, Bool.true_or, if_true] at hq
        obtain ⟨a1, a2, a3, a4, a5⟩ := next_ok h.g h.nn hP (by omega) hc (by omega)
        rw [if_pos hb, h.la, if_pos a1, if_pos hb]
        refine ⟨rfl, a2, a4, rfl, ?_, by dsimp only; omega⟩
        dsimp only
        rw [a5]
        split <;> omega
      · have hb' : begP size x.length (8 + p.length) = false := by simpa using hb
        rw [hb'] at hq
        rw [if_neg hb, if_neg hb]
        simp only [Bool.false_or] at hq
        exact ⟨rfl, hc, rfl, rfl, by dsimp only; omega, Nat.le_refl _⟩
    obtain ⟨c1, c2, c3, c4, c5, c6⟩ := hgo
    obtain ⟨b1, b2, b3, b4, b5⟩ := append_ok (n := nameS (goD size x p).1.last) (x := recP p) c2 (named_seg _) (by rw [rec_len, c3]; omega)
    have eput : putD size x p = (⟨(appendD (goD size x p).1.D (nameS (goD size x p).1.last) (recP p)).1, (goD size x p).1.last, (goD size x p).1.length + (8 + p.length)⟩, (appendD (goD size x p).1.D (nameS (goD size x p).1.last) (recP p)).2) := by unfold putD; rw [if_pos c1]
    have h0 : (putD size x p).2 = 0 := by rw [eput]; exact b1
    obtain ⟨S1, P1, q1, g1, _, l1, _, a1⟩ := put_plain h (by omega) size p hpp
    obtain ⟨a2, _⟩ := a1 h0
    rw [putsD, if_pos h0]
    have em : lenF manB (putD size x p).1.D.files = lenF manB (goD size x p).1.D.files := by
      rw [eput]; unfold lenF; rw [b5 manB (fun e => name_man _ e.symm)]
    have eu : usedD (putD size x p).1.D.files = usedD (goD size x p).1.D.files + (8 + p.length) := by rw [eput]; dsimp only; rw [b3, rec_len]
    have el : (putD size x p).1.length = (if begP size x.length (8 + p.length) = true then 0 else x.length) + (8 + p.length) := by rw [eput]; dsimp only; rw [c4]
    have eq' : (putD size x p).1.D.quota = x.D.quota := by rw [eput]; dsimp only; rw [b4, c3]
    have := ih (fun r hr => hps r (by simp [hr])) a2 (by omega) (by rw [eput]; exact b2) (by rw [el, ← hN', em, eu, eq']; exact c5)
    obtain ⟨i1, i2, i3, i4⟩ := this
    refine ⟨i1, i2, by rw [i3, eq'], ?_⟩
    rw [el, ← hN', em, eu] at i4
    omega
end Go.Proofs.YteamnhpplclmfaaGreatDoor
end
section
namespace Go.Proofs.YteamnhpplclmfaaGreatDoor
open Go.RowKit Go.Sx
set_option linter.unusedVariables false
theorem calm0 (q : Nat) : crashD ⟨0, 0, false, false, q, []⟩ 0 = ⟨0, 0, false, false, q, []⟩ := rfl
/-- an empty disk is opened -/
theorem open_zero (q size : Nat) : (openP ⟨0, 0, false, false, q, []⟩ size).code = 0 ∧ (openP ⟨0, 0, false, false, q, []⟩ size).S = ⟨size, [], 0, 1, 0, 0⟩ ∧ Gd [] [] 0 (openP ⟨0, 0, false, false, q, []⟩ size).D.files ∧ Calm (openP ⟨0, 0, false, false, q, []⟩ size).D ∧
    findF newB (openP ⟨0, 0, false, false, q, []⟩ size).D.files = none ∧ (openP ⟨0, 0, false, false, q, []⟩ size).D.quota = q := by
  obtain ⟨j, j1, j2, h1, h2, h3, h4, h5, h6⟩ := open_plain (D := ⟨0, 0, false, false, q, []⟩) Gd.nil 0 size
  rw [calm0] at h1 h2 h3 h4 h5 h6
  obtain rfl : j = 0 := by simpa using j2
  exact ⟨h1, h2, h3, h4, h5, h6⟩
theorem need_room {S : Sr} {D : Dk} {ps : List Bs} {lm : Nat} (h : ¬ (D.quota : Int) - usedD D.files < needP S ps) : usedD D.files + (needF S.size (0, S.length, false) ps).1 + (if (needF S.size (0, S.length, false) ps).2.2 = true then 24 - lm else 0) ≤ D.quota := by
  unfold needP at h
  split at h
  · rename_i h0; rw [if_pos h0]; omega
  · rename_i h0; rw [if_neg h0]; omega
/-- how a store stands behind so many of the payloads -/
structure Fu (ps : List Bs) (i : Nat) (S : Sr) (D : Dk) : Prop where
  k : ∃ k, k ≤ i ∧ S.pl = ps.take k ∧ (S.stuck = 0 → k = i)
  al : S.stuck = 0 → ∃ Ss P q, Al ⟨D, S.last, S.length⟩ Ss P q ∧ Ss.length ≤ i ∧ Calm D
  st : S.stuck = 0 ∨ S.stuck = 3
  la : S.last ≤ i + 1
  le : S.length ≤ 308 * i
theorem Fu.up {ps : List Bs} {i : Nat} {S : Sr} {D : Dk} (h : Fu ps i S D) (h3 : S.stuck = 3) : Fu ps (i + 1) S D := by
  obtain ⟨k, k1, k2, k3⟩ := h.k
  exact ⟨⟨k, by omega, k2, fun h0 => by omega⟩, fun h0 => by omega, h.st, by have := h.la; omega, by have := h.le; omega⟩
theorem putD_len (size : Nat) (x : Pt) (p : Bs) (n : Nat) (hp : p.length ≤ n) : (putsD size x [p]).1.last ≤ x.last + 1 ∧ (putsD size x [p]).1.length ≤ x.length + (8 + n) := by
  have h := go_last size x p
  rw [putsD]
  split
  · rw [putsD]; exact ⟨h.2.2.1, by have := h.2.2.2; dsimp only; omega⟩
  · exact ⟨h.2.2.1, by have := h.2.2.2; omega⟩
theorem Fu.step {ps : List Bs} {i : Nat} {S : Sr} {D : Dk} (h : Fu ps i S D) (hi : i < ps.length) (hp : ps[i].length ≤ 300) (hi2 : i ≤ 1000) :
    ((appendS ⟨S, D⟩ [ps[i]]).2 = 0 ∧ S.stuck = 0 ∧ (appendS ⟨S, D⟩ [ps[i]]).1.S.pl.length = S.pl.length + 1 ∧ Fu ps (i + 1) (appendS ⟨S, D⟩ [ps[i]]).1.S (appendS ⟨S, D⟩ [ps[i]]).1.D) ∨
    ((appendS ⟨S, D⟩ [ps[i]]).2 = 3 ∧ (appendS ⟨S, D⟩ [ps[i]]).1.S.stuck = 3 ∧ (appendS ⟨S, D⟩ [ps[i]]).1.S.pl = S.pl ∧ (appendS ⟨S, D⟩ [ps[i]]).1.D = D ∧ Fu ps (i + 1) (appendS ⟨S, D⟩ [ps[i]]).1.S (appendS ⟨S, D⟩ [ps[i]]).1.D) := by
  rcases h.st with h0 | h3
  case inr =>
    have e : appendS ⟨S, D⟩ [ps[i]] = (⟨S, D⟩, S.stuck) := if_pos (show S.stuck ≠ 0 by omega)
    rw [e]
    exact .inr ⟨h3, h3, rfl, rfl, h.up h3⟩
  obtain ⟨Ss, P, q, ha, hs, hc⟩ := h.al h0
  obtain ⟨k, k1, k2, k3⟩ := h.k
  obtain rfl := k3 h0
  have hps : ∀ p ∈ [ps[k]], p.length ≤ 65536 := fun p hp2 => by obtain rfl := List.mem_singleton.1 hp2; omega
  have hbig : ([ps[k]].any fun p => decide (65536 < p.length)) = false := by simp; omega
  unfold appendS
  rw [if_neg (by simpa using h0), if_neg (by rw [hbig]; decide)]
  by_cases hfull : (D.quota : Int) - usedD D.files < needP S [ps[k]]
  · rw [if_pos hfull]
    exact .inr ⟨rfl, rfl, rfl, rfl, ⟨⟨k, by omega, k2, (fun h0 => by cases h0)⟩, (fun h0 => by cases h0), .inr rfl, by have := h.la; show S.last ≤ _; omega, by have := h.le; show S.length ≤ _; omega⟩⟩
  rw [if_neg hfull, if_neg (by rw [hc.1]; decide)]
  obtain ⟨a1, a2, a3, a4⟩ := puts_ok (size := S.size) [ps[k]] hps ha (by simp; omega) hc (need_room hfull)
  obtain ⟨S2, P2, q2, m, g1, c1, l1, t1, al1⟩ := puts_plain (size := S.size) [ps[k]] hps ha (by simp; omega)
  obtain ⟨b1, b2⟩ := al1 a1
  have hl := putD_len S.size ⟨D, S.last, S.length⟩ ps[k] 300 hp
  rw [if_pos a1]
  refine .inl ⟨rfl, h0, by simp, ⟨⟨k + 1, Nat.le_refl _, ?_, fun _ => rfl⟩, fun _ => ⟨S2, P2, q2, b1, by simp at l1; omega, a2⟩, .inl h0, ?_, ?_⟩⟩
  · show S.pl ++ [ps[k]] = _
    rw [k2, List.take_succ_eq_append_getElem hi]
  · have := h.la; have := hl.1; dsimp only at this ⊢; omega
  · have := h.le; have := hl.2; dsimp only at this ⊢; omega
end Go.Proofs.YteamnhpplclmfaaGreatDoor
end
section
namespace Go.Proofs.YteamnhpplclmfaaGreatDoor
open Go.RowKit Go.Sx
set_option linter.unusedVariables false
set_option maxRecDepth 100000 in
theorem app_nil (v : Value) (w : World) : Calls Tryz.prog 12 ([.pointer none, v] : List Value).toArray w fun e w' => e = .returned (errV 12) ∧ Below w.heap.size w w' := by
  refine enterV tab_ok Tryz.func12 rfl Tryz.ntmps12 rfl (St.start w) ?_
  intro b2
  refine ld1 0 rfl rfl ?_
  refine cv (ready_nil) ?_
  refine ct rfl ?_
  exact rt rfl
set_option maxRecDepth 100000 in
theorem sync_nil (w : World) : Calls Tryz.prog 13 ([.pointer none] : List Value).toArray w fun e w' => e = .returned (errV 12) ∧ Below w.heap.size w w' := by
  refine enterV tab_ok Tryz.func13 rfl Tryz.ntmps13 rfl (St.start w) ?_
  refine cv (ready_nil) ?_
  refine ct rfl ?_
  exact rt rfl
set_option maxRecDepth 100000 in
set_option maxHeartbeats 1000000 in
theorem law_none (a : Option Addr) (n c : Nat) (w : World) (hw : Laid w) : Calls Tryz.prog 3 ([.slice a n c] : List Value).toArray w fun e w' => e = .returned (.bool true) ∧ Below w.heap.size w w' := by
  refine enterV tab_ok Tryz.func3 rfl Tryz.ntmps3 rfl (St.laid hw) ?_
  intro b2
  refine cvs (fun w1 hs => alive_any w1 (hs.res (k := 0) rfl)) ?_
  refine cf rfl ?_
  refine inl (C := ⟨Tryz.prog, tab, _, [], w, _⟩) tab_ok Tryz.func10 rfl Tryz.ntmps10 rfl ?_
  intro b1
  refine bk ?_
  refine rfiO (C := ⟨Tryz.prog, tab, 40, [], w, none⟩) (L0 := [rs laidR, cl b2 #[.bool false] 4, cl b1 #[.pointer none] TPS]) (α := Unit) (β := Empty) tab_ok rfl rfl rfl
    (nlall_itr b1) (fun _ _ => True) (fun _ _ => []) (fun y => y.elim) (fun y => y.elim) () trivial ?_
    (fun w' hs => ⟨hs.nth (k := 2) rfl, fun b hb e he => by cases he⟩) ?_ ?_ ?_ ?_
  · exact .refl _
  · intro i args q j h; exact h.elim
  · intro l i args q j x w ready busy h; exact h.elim
  · intro i y b0 _ _
    refine .mk _ _ (bsS1 _ _ _) (fun b3 => ?_)
    refine cv (app_nil _) ?_
    refine cv (is_any 12 12) ?_
    iterate 2 refine ct rfl ?_
    refine cv (sync_nil) ?_
    refine ct rfl ?_
    refine cv (is_any 12 12) ?_
    iterate 3 refine ct rfl ?_
    refine cv (stuck_nil) ?_
    refine ct rfl ?_
    refine cv (is_any 12 12) ?_
    iterate 3 refine ct rfl ?_
    refine cv (len_nil) ?_
    iterate 4 refine ct rfl ?_
    refine cv (sureS_nil) ?_
    iterate 4 refine ct rfl ?_
    refine cv (last_nil) ?_
    iterate 2 refine ct rfl ?_
    refine s1 1 rfl (by show 0 < 1; decide) ?_
    refine .mk 3 rfl ?_
    refine ld1 1 rfl rfl ?_
    exact rt rfl
  · intro y; exact y.elim
end Go.Proofs.YteamnhpplclmfaaGreatDoor
end
section
namespace Go.Proofs.YteamnhpplclmfaaGreatDoor
open Go.RowKit Go.Sx
set_option linter.unusedVariables false
/-- payloads that came in -/
structure PayIn (w : World) (a : Option Addr) (c : Nat) (vs : List Value) (ps : List Bs) : Prop where
  row : Rd w (.slice a ps.length c) vs
  pls : Pls vs ps
  el : ∀ (i : Nat) v p, vs[i]? = some v → ps[i]? = some p → Rd w v (Lib.byteCells p)
  mx : ∀ p ∈ ps, p.length ≤ maxLen
  cap : ps.length ≤ c
theorem lt_rdb {w : World} {v : Value} {xs : List Value} (h : Rd w v xs) : RdB (fun b => b < w.heap.size) w v xs := RdB.of h
theorem PayIn.old {B w : World} {L : List Ent} (hs : St [] B w L) {v : Value} {xs : List Value} (h : Rd B v xs) : Rd w v xs := h.below hs.below
/-- one payload that came in, in a new row -/
theorem arg_one {B w : World} {L : List Ent} (hs : St [] B w L) {T : StS} (k j : Nat) {bx : Nat} {pa : Option Addr} {pc : Nat} {p : Bs} (hk : L[k]? = some (rs (stR T))) (hj : L[j]? = some (cl bx #[.slice pa p.length pc] TB)) (hkj : j ≠ k) (hp : Rd B (.slice pa p.length pc) (Lib.byteCells p)) :
    ArgP T (oth B L k) w (.slice (some ⟨bx, 0, none⟩) 1 1) [.slice pa p.length pc] [p] := by
  refine ⟨rdb_of (Rd.ent hs j hj rfl rfl) (fun b o n c h _ => ?_), fun i v q hv hq => ?_, fun b hb => oth_far hs hk hb⟩
  · injection h with h1 _ _
    injection h1 with h1
    injection h1 with h1 _ _
    subst h1
    exact .inr ⟨j, _, hkj, hj, by simp⟩
  · rcases i with _ | i
    · obtain rfl := Option.some.inj hv
      obtain rfl := Option.some.inj hq
      refine rdb_of (hp.below hs.below) fun b o n c h hne => .inl ?_
      rw [h] at hp
      exact hp.lt0 hne
    · cases hv
theorem pls_one {pa : Option Addr} {pc : Nat} {p : Bs} : Pls [.slice pa p.length pc] [p] := by
  refine ⟨rfl, fun i u q hu hq => ?_⟩
  rcases i with _ | i
  · obtain rfl := Option.some.inj hu; obtain rfl := Option.some.inj hq; exact ⟨_, _, rfl⟩
  · cases hu
/-- all payloads that came in -/
theorem arg_in {B w : World} {L : List Ent} (hs : St [] B w L) {T : StS} (k : Nat) (hk : L[k]? = some (rs (stR T))) {a : Option Addr} {c : Nat} {vs : List Value} {ps : List Bs} (h : PayIn B a c vs ps) : ArgP T (oth B L k) w (.slice a ps.length c) vs ps := by
  have key : ∀ {v : Value} {xs : List Value}, Rd B v xs → RdB (oth B L k) w v xs := fun {v xs} hp => rdb_of (hp.below hs.below) fun b o n c h hne => .inl (by rw [h] at hp; exact hp.lt0 hne)
  exact ⟨key h.row, fun i v q hv hq => key (h.el i v q hv hq), fun b hb => oth_far hs hk hb⟩
/-- what is read of the world at first -/
theorem St.pushB {B w : World} {L : List Ent} (h : St [] B w L) {e : Ent} (ok : e.Ok w) (hW : ∀ k, ¬ e.W k) (hA : ∀ k, e.A k → k < B.heap.size) : St [] B w (L ++ [e]) := by
  refine ⟨h.os, h.tape, h.output, h.size, h.old, fun f hf => ?_, fun f hf k hk => ?_, ?_⟩
  · rcases List.mem_append.1 hf with hf | hf
    · exact h.ok f hf
    · obtain rfl := List.mem_singleton.1 hf; exact ok
  · rcases List.mem_append.1 hf with hf | hf
    · exact h.ownW f hf k hk
    · obtain rfl := List.mem_singleton.1 hf; exact absurd hk (hW k)
  · refine List.pairwise_append.2 ⟨h.apart, by simp, fun f hf g hg k => ?_⟩
    obtain rfl := List.mem_singleton.1 hg
    refine ⟨fun h1 h2 => ?_, fun h1 => absurd h1 (hW k)⟩
    have h3 := hA k h2
    rcases h.ownW f hf k h1 with h4 | ⟨_, h4, _⟩
    · omega
    · cases h4
theorem St.resR {M : Bks} {B w : World} {L : List Ent} (h : St M B w L) {k : Nat} {r : Res} (hk : L[k]? = some (rs r).rd) : r.p w := (rsOk r w).1 ((Ent.rdOk (rs r) w).1 (h.ok _ (List.mem_of_getElem? hk)))
abbrev rowB0 (B : World) : Nat → Prop := fun b => b < B.heap.size
theorem PayIn.push {B w : World} {L : List Ent} (hs : St [] B w L) {a : Option Addr} {c : Nat} {vs : List Value} {ps : List Bs} (h : PayIn B a c vs ps) : St [] B w (L ++ [rs (rdR (rowB0 B) (.slice a ps.length c) vs), rs (psR (rowB0 B) vs ps)]) := by
  have key : ∀ {v : Value} {xs : List Value}, Rd B v xs → RdB (rowB0 B) w v xs := fun {v xs} hp => rdb_of (hp.below hs.below) fun b o n c h hne => by rw [h] at hp; exact hp.lt0 hne
  have h1 := St.pushB hs (e := rs (rdR (rowB0 B) (.slice a ps.length c) vs)) ((rsOk _ _).2 ⟨key h.row, fun k hk => Nat.lt_of_lt_of_le hk hs.size⟩) (fun k hk => ((rsW _ _).1 hk).elim) (fun k hk => ((rsA _ _).1 hk).elim False.elim id)
  have h2 := St.pushB h1 (e := rs (psR (rowB0 B) vs ps)) ((rsOk _ _).2 ⟨fun i v q hv hq => key (h.el i v q hv hq), fun k hk => Nat.lt_of_lt_of_le hk hs.size⟩) (fun k hk => ((rsW _ _).1 hk).elim) (fun k hk => ((rsA _ _).1 hk).elim False.elim id)
  simpa using h2
theorem conv_u (z : Int) (hz : -9223372036854775808 ≤ z ∧ z ≤ 9223372036854775807) : ∃ q : Nat, z % 18446744073709551616 = q := ⟨(z % 18446744073709551616).toNat, by omega⟩
set_option maxRecDepth 100000 in
set_option maxHeartbeats 2000000 in
theorem law_full (z : Int) (hz : -9223372036854775808 ≤ z ∧ z ≤ 9223372036854775807) (a : Option Addr) (c : Nat) (vs : List Value) (ps : List Bs) (w : World) (hI : PayIn w a c vs ps) (hml : ps.length ≤ maxLen) (hw : Laid w) :
    Calls Tryz.prog 4 ([.int .i64 z, .slice a ps.length c] : List Value).toArray w fun e w' => e = .returned (.bool true) ∧ Below w.heap.size w w' := by
  refine enterV tab_ok Tryz.func4 rfl Tryz.ntmps4 rfl (St.laid hw) ?_
  intro b3 b4
  refine cvs (fun w1 hs => alive_any w1 (hs.res (k := 0) rfl)) ?_
  refine cf rfl ?_
  refine ld1 1 rfl rfl ?_
  by_cases hn : 40 < ps.length
  · refine ct (decide_eq_true (by omega)) ?_
    refine s1 2 rfl (by show 0 < 1; decide) ?_
    refine ld1 2 rfl rfl ?_
    exact rt rfl
  refine cf (decide_eq_false (by omega)) ?_
  obtain ⟨Q, hQ⟩ := conv_u z hz
  refine .to (Q : Int) (by show z % 18446744073709551616 = _; exact hQ) ?_
  refine ⟨by omega, by simp only [mx]; omega, by decide, ?_⟩
  have hQ6 : Q % 600 < 600 := Nat.mod_lt _ (by decide)
  refine .as ((Q % 600 : Nat) : Int) (by omega) (by simp only [mn]; omega) (by simp only [mx]; omega) ?_
  generalize Q % 600 = q0 at hQ6
  refine cM (α := Nat × Nat) (Φ := fun _ => True) (v := fun x => .tuple #[ptr x.1, .nilIface]) (r' := fun x => dkR (dk0 q0 x.1 x.2)) (fun w1 hs => (new_any q0 (by omega) w1).mono fun e w' ⟨x, h1, h2, h3, h4, h5, h6⟩ => ⟨x, h1, h2, h3, h4, h5, fun k hk => (h6 k hk).elim⟩) (fun x _ => ?_)
  refine cf rfl ?_
  obtain ⟨z1, z2, z3, z4, z5, z6⟩ := open_zero q0 64
  have hb0 : Bd q0 0 (dk0 q0 x.1 x.2).D := Bd.zero q0
  refine cOpen (K := dk0 q0 x.1 x.2) (size := 64) [cl b3 #[.slice a ps.length c] 36, cl b4 #[.bool false] 4] (List.perm_append_comm (l₁ := [rs (dkR (dk0 q0 x.1 x.2))])) (by decide) (by decide) rfl hb0 (by decide) (by omega) (fun _ T0 hS0 hD0 hbd0 hok0 => ?_) (fun h => absurd z1 h)
  refine cf rfl ?_
  refine ld1 1 rfl rfl ?_
  have hbT : Bd q0 6 T0.k.D := by rw [hD0]; exact hb0.open 64
  have hF0 : Fu ps 0 T0.S T0.k.D := by
    rw [hS0, hD0]
    have e : (openP (dk0 q0 x.1 x.2).D 64).S = ⟨64, [], 0, 1, 0, 0⟩ := z2
    rw [e]
    exact ⟨⟨0, Nat.le_refl _, rfl, fun _ => rfl⟩, fun _ => ⟨[], [], 0, ⟨z3, z5, rfl, rfl⟩, Nat.le_refl _, z4⟩, .inl rfl, Nat.le_refl _, Nat.zero_le _⟩
  refine lp tab_ok (fun y : Nat × StS => y.1 ≤ ps.length ∧ StOk y.2 ∧ y.2.bs = T0.bs ∧ y.2.k.bd = x.1 ∧ Fu ps y.1 y.2.S y.2.k.D ∧ Bd q0 (6 + 6 * y.1) y.2.k.D ∧ ∀ j (hj : j < ps.length), j < y.1 → ps[j].length ≤ 300)
    (fun y => ⟨[(3, ptr b3), (4, ptr b4), (5, ptr x.1), (7, ptr T0.bs), (40, .slice a ps.length c), (41, .int .i64 ps.length), (42, .int .i64 y.1)], [rs (stR y.2), cl b3 #[.slice a ps.length c] 36, cl b4 #[.bool false] 4], []⟩) (fun y => ps.length - y.1)
    (0, T0) ⟨Nat.zero_le _, hok0, rfl, hbd0, hF0, hbT, fun j hj h => by cases h⟩ ⟨⟨rfl, rfl, rfl, rfl, rfl, rfl, rfl, trivial⟩, Sub.refl _, rfl⟩ ?_
  rintro ⟨i, T⟩ ⟨hi, hok, hbs, hbd, hF, hB, hsm⟩
  dsimp only at hi hok hbs hbd hF hB hsm ⊢
  obtain ⟨k, hk1, hk2, hk3⟩ := hF.k
  have hpll : T.S.pl.length ≤ 40 := by rw [hk2, List.length_take]; omega
  refine cd (fun h => ?_) (fun h => ?_)
  · have hlt : i < ps.length := by omega
    have hne : vs ≠ [] := fun e => by have := hI.pls.len; rw [e] at this; simp at this; omega
    obtain ⟨pb, po, rfl⟩ := hI.row.addr hne
    obtain ⟨pa, pc, hpv⟩ := hI.pls.at (i := i) (p := ps[i]) (by simp [hlt])
    have hpg : ps[i]? = some ps[i] := by simp [hlt]
    refine ⟨by omega, by omega, ?_⟩
    refine ldo (hI.row.at hpv rfl) (hI.row.lt0 hne) ?_
    by_cases h300 : 300 < ps[i].length
    · refine ct (decide_eq_true (by omega)) ?_
      refine s1 2 rfl (by show 0 < 1; decide) ?_
      refine ld1 2 rfl rfl ?_
      exact rt rfl
    refine cf (decide_eq_false (by omega)) ?_
    obtain ⟨va, vc, hva⟩ := sv_sl hok.row
    rw [← hbs, ← hbd]
    refine cvs (fun w1 hs => by have := stR_cl (hs.res (k := 0) rfl); rw [hva] at this; exact len_any this) ?_
    refine cvs (fun w1 hs => steps_any T.k w1 (stR_dk (hs.res (k := 0) rfl))) ?_
    refine cvs (fun w1 hs => used_any T.k w1 (stR_dk (hs.res (k := 0) rfl)) (by have := hB.f.q; omega)) ?_
    refine cvs (fun w1 hs => stuck_any (stR_cl (hs.res (k := 0) rfl))) ?_
    refine .mk _ _ (bsS1 _ _ _) (fun bx => ?_)
    refine cTs 0 (x := (appendS ⟨T.S, T.k.D⟩ [ps[i]]).1) (code := (appendS ⟨T.S, T.k.D⟩ [ps[i]]).2) rfl (fun w1 hs => ?_) (fun T' e1 e2 e3 e4 e5 => ?_)
    · exact appS_any T hok _ (some ⟨bx, 0, none⟩) 1 [.slice pa ps[i].length pc] [ps[i]] pls_one (by show 1 ≤ 100; decide) (fun p hp => by obtain rfl := List.mem_singleton.1 hp; exact hI.mx _ (List.getElem_mem hlt)) (by omega) (by have := hF.la; omega) (by have := hF.le; omega) hB (by omega) (by omega) w1 (hs.res (k := 0) rfl) (arg_one hs 0 3 rfl rfl (by decide) (hI.el i _ _ hpv hpg))
    have hB' : Bd q0 (6 + 6 * (i + 1)) T'.k.D := by rw [e2]; exact (Bd.appS (x := ⟨T.S, T.k.D⟩) hB [ps[i]]).le (by simp; omega)
    have hsm' : ∀ j (hj : j < ps.length), j < i + 1 → ps[j].length ≤ 300 := fun j hj h => by
      by_cases hji : j = i
      · subst hji; omega
      · exact hsm j hj (by omega)
    obtain ⟨va', vc', hva'⟩ := sv_sl e5.row
    rw [← e3]
    rcases hF.step hlt (by omega) (by omega) with ⟨r1, r2, r3, r4⟩ | ⟨r1, r2, r3, r4, r5⟩
    · rw [r1, r2]
      rw [← e1, ← e2] at r4
      rw [← e1] at r3
      refine ct rfl ?_
      iterate 2 refine ct rfl ?_
      refine cvs (fun w1 hs => by have := stR_cl (hs.res (k := 0) rfl); rw [hva'] at this; exact len_any this) ?_
      iterate 2 refine ct rfl ?_
      refine .as ((T.S.pl.length + 1 : Nat) : Int) (by omega) (by simp only [mn]; omega) (by simp only [mx]; omega) ?_
      have hnb : (((T'.S.pl.length : Nat) : Int) != ((T.S.pl.length + 1 : Nat) : Int)) = false := by rw [r3]; exact bne_self_eq_false _
      refine ct rfl ?_
      refine cf rfl ?_
      refine cf hnb ?_
      refine .as ((i + 1 : Nat) : Int) (by omega) (by simp only [mn]; omega) (by simp only [mx]; omega) ?_
      exact ⟨(i + 1, T'), ⟨hlt, e5, rfl, e4, r4, hB', hsm'⟩, by dsimp only; omega, ⟨⟨rfl, rfl, rfl, rfl, rfl, rfl, rfl, trivial⟩, .cons (.cons (.cons .nil)), rfl⟩⟩
    · rw [r1]
      rw [← e1, ← e2] at r5
      rw [← e1] at r2 r3
      rw [← e2] at r4
      have hxx : ∀ z : Int, (z != z) = false := fun z => bne_self_eq_false z
      have hyy : ∀ z : Int, ((z != z) == false) = true := fun z => by rw [hxx]; rfl
      refine cf rfl ?_
      refine cv (is_any 3 3) ?_
      iterate 2 refine ct rfl ?_
      refine cvs (fun w1 hs => stuck_any (stR_cl (hs.res (k := 0) rfl))) ?_
      rw [r2]
      refine ct rfl ?_
      refine cv (is_any 3 3) ?_
      refine ct rfl ?_
      refine cf rfl ?_
      iterate 2 refine ct rfl ?_
      refine cvs (fun w1 hs => by have := stR_cl (hs.res (k := 0) rfl); rw [hva'] at this; exact len_any this) ?_
      rw [show T'.S.pl.length = T.S.pl.length by rw [r3]]
      iterate 2 refine ct rfl ?_
      refine cf rfl ?_
      iterate 2 refine ct (hyy _) ?_
      rw [← e4]
      refine cvs (fun w1 hs => steps_any T'.k w1 (stR_dk (hs.res (k := 0) rfl))) ?_
      rw [show T'.k.D.steps = T.k.D.steps by rw [r4]]
      iterate 2 refine ct (hyy _) ?_
      refine cf (hxx _) ?_
      iterate 2 refine ct (hyy _) ?_
      refine cvs (fun w1 hs => used_any T'.k w1 (stR_dk (hs.res (k := 0) rfl)) (by have := hB'.f.q; omega)) ?_
      rw [show usedD T'.k.D.files = usedD T.k.D.files by rw [r4]]
      iterate 2 refine ct (hyy _) ?_
      refine cf (hxx _) ?_
      iterate 2 refine ct (hyy _) ?_
      have esy : syncS ⟨T'.S, T'.k.D⟩ = (⟨T'.S, T'.k.D⟩, 3) := by unfold syncS; rw [if_pos (by rw [r2]; decide), r2]
      refine cTs 0 (x := ⟨T'.S, T'.k.D⟩) (code := 3) rfl (fun w1 hs => ?_) (fun T2 f1 f2 f3 f4 f5 => ?_)
      · have := syncS_any T' e5 (by have := r5.la; omega) hB' (by omega) w1 (hs.res (k := 0) rfl)
        rw [esy] at this
        exact this
      refine ct (hyy _) ?_
      refine cv (is_any 3 3) ?_
      refine ct (hyy _) ?_
      refine cf (hxx _) ?_
      refine cf rfl ?_
      refine .as ((i + 1 : Nat) : Int) (by omega) (by simp only [mn]; omega) (by simp only [mx]; omega) ?_
      exact ⟨(i + 1, T2), ⟨hlt, f5, f3, f4, by rw [f1, f2]; exact r5, by rw [f2]; exact hB', hsm'⟩, by dsimp only; omega, ⟨⟨rfl, rfl, rfl, rfl, rfl, rfl, rfl, trivial⟩, .cons (.cons (.cons .nil)), rfl⟩⟩
  · obtain ⟨va, vc, hva⟩ := sv_sl hok.row
    have hkl : k ≤ ps.length := by omega
    have hxx : ∀ z : Int, (z != z) = false := fun z => bne_self_eq_false z
    have hyy : ∀ z : Int, ((z != z) == false) = true := fun z => by rw [hxx]; rfl
    have hplg : ∀ i p, T.S.pl[i]? = some p → ps[i]? = some p ∧ i < ps.length ∧ p.length ≤ 300 := fun j p hp => by
      rw [hk2, List.getElem?_take] at hp
      split at hp
      · rename_i hjk
        have hjl := (List.getElem?_eq_some_iff.1 hp).1
        refine ⟨hp, hjl, ?_⟩
        have := hsm j hjl (by omega)
        rwa [(List.getElem?_eq_some_iff.1 hp).2] at this
      · cases hp
    intro b15
    refine s1 3 rfl (by show 0 < 1; decide) ?_
    rw [← hbs]
    refine inl (C := ⟨Tryz.prog, tab, _, [], w, _⟩) tab_ok Tryz.func10 rfl Tryz.ntmps10 rfl ?_
    intro b1
    refine bk ?_
    refine CodeP.from (L' := [rs (stR T), cl b3 #[.slice a ps.length c] 36, cl b4 #[.bool false] 4, cl b15 #[.int .i64 (0 : Nat)] 3, cl b1 #[ptr T.bs] TPS, rs (rdR (rowB0 w) (.slice a ps.length c) vs), rs (psR (rowB0 w) vs ps)]) (fun w1 hs => hI.push hs) ?_
    refine rfiO (C := ⟨Tryz.prog, tab, 128, [], w, none⟩) (L0 := [rs (stR T), cl b3 #[.slice a ps.length c] 36, cl b4 #[.bool false] 4, cl b1 #[ptr T.bs] TPS, rs (rdR (rowB0 w) (.slice a ps.length c) vs), rs (psR (rowB0 w) vs ps)]) (α := Unit) (β := Empty) tab_ok rfl rfl rfl
      (stall_itr b1 T hok (by omega) (fun p hp => by obtain ⟨j, hj, rfl⟩ := List.getElem_of_mem hp; have := (hplg j _ (List.getElem?_eq_getElem hj)).2.2; omega)) (fun i _ => i ≤ T.S.pl.length) (fun i _ => [cl b15 #[.int .i64 (i : Nat)] 3]) (fun y => y.elim) (fun y => y.elim) () (Nat.zero_le _) ?_
      (fun w' hs => ⟨⟨hs.nth (k := 3) rfl, hs.res (k := 0) rfl⟩, ?_⟩) ?_ ?_ ?_ ?_
    · exact .cons _ (.cons _ (.cons _ (List.perm_append_comm (l₁ := [cl b1 #[ptr T.bs] TPS, rs (rdR (rowB0 w) (.slice a ps.length c) vs), rs (psR (rowB0 w) vs ps)]) (l₂ := [cl b15 #[.int .i64 (0 : Nat)] 3]))))
    · rintro x (hx | hx | hx) e he hw
      · exact hx.elim
      · obtain rfl := List.mem_singleton.1 he
        subst hx
        exact (pw_ne hs.apart (i := 6) (j := 3) rfl rfl (by decide) _).1 hw (by simp)
      · obtain rfl := List.mem_singleton.1 he
        exact (pw_ne hs.apart (i := 6) (j := 0) rfl rfl (by decide) _).1 hw hx
    · rintro i args q j ⟨p, r, _, rfl, _⟩; rfl
    · rintro lq j args q j' _ w' ready busy ⟨p, r, hpj, rfl, rfl, hR, rfl⟩ hj
      obtain ⟨g1, g2, g3⟩ := hplg j p hpj
      have hjl := (List.getElem?_eq_some_iff.1 hpj).1
      have hne : vs ≠ [] := fun e => by have := hI.pls.len; rw [e] at this; simp at this; omega
      obtain ⟨pb, po, rfl⟩ := hI.row.addr hne
      obtain ⟨pa, pc, hpv⟩ := hI.pls.at g1
      refine ⟨rfl, ?_⟩
      refine ld1 6 rfl rfl ?_
      refine ct (hyy _) ?_
      refine ct (hyy _) ?_
      refine ld1 1 rfl rfl ?_
      refine ct (hyy _) ?_
      refine ct (hyy _) ?_
      refine ⟨by omega, by omega, ?_⟩
      refine ct (hyy _) ?_
      refine .mk (.slice pa p.length pc) (fun w2 hs => (St.resR hs (k := 4) (r := rdR (rowB0 w) (.slice (some ⟨pb, po, none⟩) ps.length c) vs) rfl).1.rd.at hpv rfl) ?_
      refine ct (hyy _) ?_
      refine cvs (fun w2 hs => same_yes _ _ p w2 (Rd.own hs 7 rfl hR) ((St.resR hs (k := 5) (r := psR (rowB0 w) vs ps) rfl).1 j _ _ hpv g1).rd) ?_
      refine ct (hyy _) ?_
      refine cf (hxx _) ?_
      refine cf rfl ?_
      refine ld1 6 rfl rfl ?_
      refine .as ((j + 1 : Nat) : Int) (by omega) (by simp only [mn]; omega) (by simp only [mx]; omega) ?_
      refine s1 6 rfl (by show 0 < 1; decide) ?_
      exact ⟨(), hjl, .drop (.drop (.drop (.drop (.drop (.drop (.cons (.drop (.cons .nil)))))))), fun e he b hb hnw => by
        obtain rfl := List.mem_singleton.1 he
        exact absurd (by simpa using hb) (by simpa using hnw)⟩
    · rintro j y b0 rfl hj
      refine dr [rs (stR T), dead, dead, dead, dead, dead, cl b15 #[.int .i64 (T.S.pl.length : Nat)] 3] 4 (.t 0 (.t 1 (.t 2 (.t 3 (.n 4 .nil))))) tab_ok mixed_ok (by kernel_rfl) (.cons (.dead (.dead (.dead (.dead (.dead (.cons .nil))))))) ?_
      refine ld1 6 rfl rfl ?_
      refine czs (fun w1 hs => by have := stR_cl (hs.res (k := 0) rfl); rw [hva] at this; exact len_any this) ?_
      refine s1 2 rfl (by show 0 < 1; decide) ?_
      refine .mk 7 rfl ?_
      refine ld1 2 rfl rfl ?_
      exact rt (congrArg Value.bool (beq_self_eq_true _))
    · intro y; exact y.elim
end Go.Proofs.YteamnhpplclmfaaGreatDoor
end
section
namespace Go.Proofs.YteamnhpplclmfaaGreatDoor
open Go.ChangeShapes Go.WideShapes Go.ChangeAt Go.RowKit Go.Sx
set_option linter.unusedVariables false
theorem cellsI : Tryz.prog.cellsOf 3 = 1 := by kernel_rfl
theorem cellsS : Tryz.prog.cellsOf 9 = 1 := by kernel_rfl
theorem cellsB : Tryz.prog.cellsOf 22 = 1 := by kernel_rfl
theorem cellsBB : Tryz.prog.cellsOf 36 = 1 := by kernel_rfl
section
variable {H : Type} {enc : TypeId × Value → H} {w : World} {base : Nat} {spare : Nat → Bool} {held : Bool}
set_option maxRecDepth 100000 in
/-- bytes in a field -/
theorem open_rdc {fuel : Nat} {cs : List Value} {x : DataW H × List MemPlace} (h : DataW.trod enc Tryz.prog w base spare held fuel 22 cs = some x) : ∃ v bs, cs = [v] ∧ bs.length ≤ maxLen ∧ Rd w v (Lib.byteCells bs) := by
  rcases open_ints Tryz.underlying22 Tryz.underlying5 cellsU8 h with ⟨hcs, hx⟩ | ⟨a, len, cap, zs, hcs, _, hl, hm, hz, hx, hcell, hwz⟩
  · exact ⟨_, [], hcs, Nat.zero_le _, none, 0, rfl, fun h => absurd rfl h⟩
  · have hlz : len ≤ zs.length := by rw [hz]; split <;> omega
    obtain ⟨bs, hbs, hd⟩ := bytes_of (fun i => zs.getD i 0) len (fun i hi => by
      have hmem : zs.getD i 0 ∈ zs := by
        have : zs.getD i 0 = zs[i]'(by omega) := by simp [List.getD, show i < zs.length by omega]
        rw [this]; exact List.getElem_mem _
      have := bounds_u8 (hwz _ hmem)
      omega)
    refine ⟨_, bs, hcs, by omega, some a, cap, by rw [Lib.byteCells_length, hbs], fun hne => ?_⟩
    have hpos : 0 < len := by
      rcases Nat.eq_zero_or_pos len with h0 | h0
      · rw [h0] at hbs; rw [List.eq_nil_of_length_eq_zero hbs] at hne; exact absurd rfl hne
      · exact h0
    have h0 := hcell 0 (by omega)
    obtain ⟨b, o, sp⟩ := a
    obtain rfl : sp = none := by have := World.cell?_spot h0; simpa [Addr.add] using this
    refine ⟨b, o, rfl, World.block_lt_of_cell? w _ h0, fun j u hu => ?_⟩
    have hj : j < len := by have := (List.getElem?_eq_some_iff.1 hu).1; rw [Lib.byteCells_length] at this; omega
    rw [hd j hj] at hu
    rw [← addr_add, hcell j (by omega)]; exact hu
set_option maxRecDepth 100000 in
/-- rows of bytes in a field -/
theorem open_paysc {fuel : Nat} {cs : List Value} {x : DataW H × List MemPlace} (h : DataW.trod enc Tryz.prog w base spare held fuel 36 cs = some x) : ∃ a c vs ps, cs = [.slice a ps.length c] ∧ ps.length ≤ maxLen ∧ PayIn w a c vs ps := by
  rcases Go.Deep.open_slice1 Tryz.underlying36 cellsB h with ⟨hcs, _⟩ | ⟨a, len, cap, m, n, V, D, Pl, hcs, _, hl, hm, hmm, _, hx⟩
  · exact ⟨none, 0, [], [], hcs, Nat.zero_le _, ⟨none, 0, rfl, fun h => absurd rfl h⟩, ⟨rfl, (fun i v p hv => by simp at hv)⟩, (fun i v p hv => by simp at hv), (fun p hp => by simp at hp), Nat.le_refl _⟩
  · have hlm : len ≤ m := by rw [hmm]; split <;> omega
    have each : ∀ i, i < len → ∃ bs : Bs, w.cell? (a.add i) = some (V i) ∧ bs.length ≤ maxLen ∧ Rd w (V i) (Lib.byteCells bs) := by
      intro i hi
      obtain ⟨h1, h2⟩ := hx i (by omega)
      obtain ⟨v, bs, e, hb, hr⟩ := open_rdc h2
      obtain rfl : V i = v := by simpa using e
      exact ⟨bs, h1, hb, hr⟩
    obtain ⟨O, hO⟩ := Go.Deep.choose_lt each
    have hlen : ((List.range len).map O).length = len := by simp
    have hget : ∀ (i : Nat) v p, ((List.range len).map V)[i]? = some v → ((List.range len).map O)[i]? = some p → i < len ∧ v = V i ∧ p = O i := fun i v p hv hp => by
      have hi : i < len := by have := (List.getElem?_eq_some_iff.1 hv).1; simpa using this
      simp [hi] at hv hp
      exact ⟨hi, hv.symm, hp.symm⟩
    refine ⟨some a, cap, (List.range len).map V, (List.range len).map O, by rw [hlen]; exact hcs, by rw [hlen]; omega, ?_, ⟨by simp, fun i v p hv hp => ?_⟩, fun i v p hv hp => ?_, fun p hp => ?_, by rw [hlen]; exact hl⟩
    · refine ⟨some a, cap, by simp, fun hne => ?_⟩
      have h0 : 0 < len := by
        rcases Nat.eq_zero_or_pos len with h | h
        · rw [h] at hne; exact absurd rfl hne
        · exact h
      have hc0 := (hO 0 h0).1
      obtain ⟨b, o, sp⟩ := a
      obtain rfl : sp = none := by have := World.cell?_spot hc0; simpa [Addr.add] using this
      refine ⟨b, o, rfl, World.block_lt_of_cell? w _ hc0, fun j u hu => ?_⟩
      have hj : j < len := by have := (List.getElem?_eq_some_iff.1 hu).1; simpa using this
      simp [hj] at hu
      rw [← addr_add, (hO j hj).1, hu]
    · obtain ⟨hi, rfl, rfl⟩ := hget i v p hv hp
      obtain ⟨a', c', e, _⟩ := (hO i hi).2.2
      exact ⟨a', c', by rw [e, Lib.byteCells_length]⟩
    · obtain ⟨hi, rfl, rfl⟩ := hget i v p hv hp
      exact (hO i hi).2.2
    · obtain ⟨i, hi, rfl⟩ := List.mem_map.1 hp
      exact (hO i (by simpa using hi)).2.1
set_option maxRecDepth 100000 in
theorem open_pays {r : Reach} {b0 : Nat} {v : Value} {d : DataW H} {p : List MemPlace} (hv : Value.okWide Tryz.prog w r b0 36 v) (h : DataW.Trod enc Tryz.prog w base spare held 36 v d p) : ∃ a c vs ps, v = .slice a ps.length c ∧ ps.length ≤ maxLen ∧ PayIn w a c vs ps := by
  obtain ⟨a0, len0, cap0, rfl⟩ := okWide_slice Tryz.underlying36 hv
  obtain ⟨fuel, hf⟩ := h
  obtain ⟨a, c, vs, ps, e, h1, h2⟩ := open_paysc hf
  exact ⟨a, c, vs, ps, by simpa [Value.cells] using e, h1, h2⟩
end
end Go.Proofs.YteamnhpplclmfaaGreatDoor
end
section
namespace Go.Proofs.YteamnhpplclmfaaGreatDoor
open Go.RowKit Go.Sx
set_option linter.unusedVariables false
theorem need_le {size n : Nat} (ps : List Bs) (h : ∀ p ∈ ps, p.length ≤ n) : ∀ len, (needF size (0, len, false) ps).1 ≤ (8 + n) * ps.length := by
  induction ps with
  | nil => intro len; exact Nat.zero_le _
  | cons p ps ih =>
    intro len
    rw [need_step, (need_lin ps _ _ _).1, List.length_cons, Nat.mul_succ]
    have h1 := h p (by simp)
    have h2 := ih (fun q hq => h q (by simp [hq])) ((if begP size len (8 + p.length) = true then 0 else len) + (8 + p.length))
    omega
theorem puts_len (size n : Nat) (ps : List Bs) (h : ∀ p ∈ ps, p.length ≤ n) : ∀ x : Pt, (putsD size x ps).1.last ≤ x.last + ps.length ∧ (putsD size x ps).1.length ≤ x.length + (8 + n) * ps.length := by
  induction ps with
  | nil => intro x; exact ⟨Nat.le_refl _, Nat.le_refl _⟩
  | cons p ps ih =>
    intro x
    have h1 := go_last size x p
    have h2 := h p (by simp)
    have h3 := ih (fun q hq => h q (by simp [hq])) (putD size x p).1
    rw [putsD, List.length_cons, Nat.mul_succ]
    split
    · exact ⟨by have := h1.2.2.1; omega, by have := h1.2.2.2; omega⟩
    · exact ⟨by have := h1.2.2.1; omega, by have := h1.2.2.2; omega⟩
/-- a store that holds the first payloads -/
structure An (ps : List Bs) (i : Nat) (S : Sr) (D : Dk) : Prop where
  st : S.stuck = 0
  pl : S.pl = ps.take i
  al : ∃ Ss P q, Al ⟨D, S.last, S.length⟩ Ss P q ∧ Ss.flatten ++ P = S.pl ∧ Ss.length ≤ i
  calm : Calm D
  qt : D.quota = 1048576
  us : usedD D.files ≤ 400 * i
  la : S.last ≤ i + 1
  le : S.length ≤ 308 * i
theorem Gd.used0 {F : List Fe} (h : Gd [] [] 0 F) (hn : findF newB F = none) : usedD F = 0 := by
  have hz : ∀ f ∈ F, f.bs.length = 0 := fun f hf => by
    have hfs := find_some h.nd hf
    rcases h.oth f hf with e | e | ⟨i, h1, h2, e⟩
    · have hm : findF manB F = none := h.man
      rw [← e, hfs] at hm
      cases hm
    · rw [← e, hfs] at hn; cases hn
    · obtain rfl : i = 1 := by simp at h2; omega
      rw [e] at hfs
      rcases h.las with ⟨_, e2⟩ | ⟨g, e1, e2, _⟩
      · rw [show nameS (([] : List (List Bs)).length + 1) = nameS 1 from rfl, hfs] at e2; cases e2
      · rw [show nameS (([] : List (List Bs)).length + 1) = nameS 1 from rfl, hfs] at e1
        obtain rfl := Option.some.inj e1
        rw [e2]; rfl
  clear hn h
  induction F with
  | nil => rfl
  | cons f F ih => rw [used_cons, hz f (by simp), ih fun g hg => hz g (by simp [hg])]
theorem An.zero (ps : List Bs) (size : Nat) : An ps 0 (openP ⟨0, 0, false, false, 1048576, []⟩ size).S (openP ⟨0, 0, false, false, 1048576, []⟩ size).D := by
  obtain ⟨z1, z2, z3, z4, z5, z6⟩ := open_zero 1048576 size
  have hf := z3.used0 z5
  rw [z2]
  refine ⟨rfl, rfl, ⟨[], [], 0, ⟨z3, z5, rfl, rfl⟩, rfl, Nat.le_refl _⟩, z4, z6, by rw [hf]; exact Nat.zero_le _, Nat.le_refl _, Nat.zero_le _⟩
theorem An.step {ps : List Bs} {i k : Nat} {S : Sr} {D : Dk} (h : An ps i S D) (hk1 : 1 ≤ k) (hk4 : k ≤ 100) (hik : i + k ≤ ps.length) (hi : i ≤ 100) (hp : ∀ p ∈ ps, p.length ≤ 300) :
    (appendS ⟨S, D⟩ ((ps.drop i).take k)).2 = 0 ∧ An ps (i + k) (appendS ⟨S, D⟩ ((ps.drop i).take k)).1.S (appendS ⟨S, D⟩ ((ps.drop i).take k)).1.D := by
  obtain ⟨Ss, P, q, ha, ht, hs⟩ := h.al
  have hql : ((ps.drop i).take k).length = k := by rw [List.length_take, List.length_drop]; omega
  have hqp : ∀ p ∈ (ps.drop i).take k, p.length ≤ 300 := fun p hm => hp p (List.mem_of_mem_drop (List.mem_of_mem_take hm))
  have htk : ps.take (i + k) = ps.take i ++ (ps.drop i).take k := List.take_add ..
  generalize (ps.drop i).take k = qs at hql hqp htk
  have hqp6 : ∀ p ∈ qs, p.length ≤ 65536 := fun p hm => by have := hqp p hm; omega
  have hbig : (qs.any fun p => decide (65536 < p.length)) = false := by
    rw [List.any_eq_false]; intro p hm; have := hqp p hm; simp; omega
  have hN := need_le (size := S.size) (n := 300) qs hqp S.length
  rw [hql] at hN
  have hus := h.us
  have hqt := h.qt
  have hml := man_le ha.g
  dsimp only at hml
  have hfull : ¬ (D.quota : Int) - usedD D.files < needP S qs := by
    unfold needP; split <;> omega
  obtain ⟨a1, a2, a3, a4⟩ := puts_ok (size := S.size) qs hqp6 ha (by omega) h.calm (need_room hfull)
  obtain ⟨S2, P2, q2, m, g1, c1, l1, t1, al1⟩ := puts_plain (size := S.size) qs hqp6 ha (by omega)
  obtain ⟨b1, b2⟩ := al1 a1
  have hl := puts_len S.size 300 qs hqp ⟨D, S.last, S.length⟩
  rw [hql] at hl l1
  dsimp only at a4 hl a3
  unfold appendS
  rw [if_neg (by simpa using h.st), if_neg (by rw [hbig]; decide), if_neg hfull, if_neg (by rw [h.calm.1]; decide), if_pos a1]
  refine ⟨rfl, ⟨h.st, ?_, ⟨S2, P2, q2, b1, by show _ = S.pl ++ qs; rw [b2, ht], by omega⟩, a2, by show (putsD S.size ⟨D, S.last, S.length⟩ qs).1.D.quota = _; rw [a3]; exact hqt, ?_, by have := h.la; have := hl.1; show (putsD S.size ⟨D, S.last, S.length⟩ qs).1.last ≤ _; omega, by have := h.le; have := hl.2; show (putsD S.size ⟨D, S.last, S.length⟩ qs).1.length ≤ _; omega⟩⟩
  · show S.pl ++ qs = _
    rw [h.pl, htk]
  · show usedD (putsD S.size ⟨D, S.last, S.length⟩ qs).1.D.files ≤ _
    omega
theorem An.sync {ps : List Bs} {i : Nat} {S : Sr} {D : Dk} (h : An ps i S D) : (syncS ⟨S, D⟩).2 = 0 ∧ ∃ Ss P, Gd Ss P P.length (syncS ⟨S, D⟩).1.D.files ∧ Ss.flatten ++ P = S.pl := by
  obtain ⟨Ss, P, q, ha, ht, hs⟩ := h.al
  have hla : S.last = Ss.length + 1 := ha.la
  unfold syncS
  rw [if_neg (by simpa using h.st), if_neg (by rw [h.calm.1]; decide)]
  dsimp only
  rw [hla]
  cases hh : hasD D (nameS (Ss.length + 1)) with
  | false =>
    rw [if_neg (by decide)]
    refine ⟨rfl, Ss, P, ?_, ht⟩
    rcases ha.g.las with ⟨e, _⟩ | ⟨f, e, _⟩
    · subst e
      have hq := ha.g.ql
      obtain rfl : q = 0 := by simpa using hq
      exact ha.g
    · unfold hasD at hh; dsimp only at e; rw [e] at hh; cases hh
  | true =>
    rw [if_pos rfl]
    obtain ⟨f, hf⟩ := has_read hh
    have e := sync_eq hf
    obtain ⟨a1, a2, a3, a4⟩ := act_calm h.calm (setF ⟨nameS (Ss.length + 1), f.bs, f.bs.length⟩ D.files)
    rw [← e] at a1 a2 a3 a4
    rw [if_pos a1]
    refine ⟨rfl, Ss, P, ?_, ht⟩
    dsimp only
    rw [a2]
    exact ha.g.synced hf
end Go.Proofs.YteamnhpplclmfaaGreatDoor
end
section
namespace Go.Proofs.YteamnhpplclmfaaGreatDoor
open Go.RowKit Go.Sx
set_option linter.unusedVariables false
theorem _root_.Go.Sx.Rd.midV {w : World} {b o n c i m : Nat} {xs : List Value} (h : Rd w (.slice (some ⟨b, o, none⟩) n c) xs) (him : i + m ≤ xs.length) (c' : Nat) : Rd w (.slice (some ⟨b, o + i, none⟩) m c') ((xs.drop i).take m) := by
  obtain ⟨a', c1, e, hc⟩ := h
  injection e with e1 e2 e3
  subst e1
  have hlen : ((xs.drop i).take m).length = m := by rw [List.length_take, List.length_drop]; omega
  refine ⟨some ⟨b, o + i, none⟩, c', by rw [hlen], fun hne => ?_⟩
  obtain ⟨b', o', h1, h2, h3⟩ := hc (fun e => hne (by rw [e]; simp))
  injection h1 with h1
  injection h1 with h4 h5
  subst h4 h5
  refine ⟨b, o + i, rfl, h2, fun j u hu => ?_⟩
  rw [Nat.add_assoc]
  refine h3 (i + j) u ?_
  rw [List.getElem?_take] at hu
  split at hu
  · rw [List.getElem?_drop] at hu; exact hu
  · cases hu
/-- s[i:j], of cells -/
theorem slMidV {e : Nat} {aa : Option Addr} {n cap i j : Nat} (ha : ∀ a, aa = some a → a.spot = none) (hij : i < j) (hjc : j ≤ cap) (hne : aa ≠ none) {next : Value → Prop} {fb : Prop}
    (go : ∀ a', (∀ (w : World) (xs : List Value), Rd w (.slice aa n cap) xs → j ≤ xs.length → Rd w (.slice a' (j - i) (cap - i)) ((xs.drop i).take (j - i))) → next (.slice a' (j - i) (cap - i))) :
    SliP (.sl e 1) (.slice aa n cap) (some (i : Int)) (some (j : Int)) none next fb := by
  refine ⟨?_⟩
  cases aa with
  | none => exact absurd rfl hne
  | some a =>
    obtain ⟨b, o, sp⟩ := a
    obtain rfl : sp = none := ha _ rfl
    refine .mk i j cap rfl rfl rfl (by omega) hjc (Nat.le_refl _) (by simp) ?_
    refine .on (by omega) ?_
    rw [nad_eq, nmu_eq, Nat.mul_one]
    exact go _ fun w xs h hl => h.midV (by omega) _
theorem St.dupL {M : Bks} {B w : World} {L : List Ent} (h : St M B w L) (k : Nat) (hk : L[k]? = some (rs laidR)) : St M B w (rs laidR :: L) := by
  have h1 : St M B w (L ++ [rs laidR]) := h.push (Below.refl _ _) (h.ok _ (List.mem_of_getElem? hk)) (fun b hb => absurd hb fun hb => ((rsW _ _).1 hb).elim) (fun b hb => .inr ⟨_, List.mem_of_getElem? hk, hb, fun hw => ((rsW _ _).1 hw).elim⟩)
  exact h1.perm (List.perm_append_comm (l₁ := [rs laidR]) (l₂ := L))
/-- a store is let go: its disk stays -/
theorem St.unst {M : Bks} {B w : World} {T : StS} {R : List Ent} (h : St M B w (rs (stR T) :: R)) : St M B w (rs (dkR T.k) :: rs laidR :: R) := by
  have h1 : St M B w ([] ++ stEs T ++ R) := St.unpack (X := []) (Y := R) h
  have h2 : Sub (rs (dkR T.k) :: rs laidR :: R) ([] ++ stEs T ++ R) := .drop (.cons (.cons (.drop (.drop (Sub.refl R)))))
  exact h1.sub h2
/-- a disk is opened: the call, the known things named otherwise -/
theorem cOpen2 {N : Nat} {M : Bks} {B : World} {F : Option Nat} {L : List Ent} {K : DkS} {size : Nat} (rest : List Ent) {next : Value → List Ent → Prop} (hL : ∀ w, St M B w L → St M B w (rs (dkR K) :: rs laidR :: rest)) (h1 : 64 ≤ size) (h2 : size ≤ 1048576) (hgone : K.D.gone = false) {q k : Nat} (hB : Bd q k K.D) (hk : k ≤ 299999) (hq : q ≤ 16777216)
    (go0 : (openP K.D size).code = 0 → ∀ T : StS, T.S = (openP K.D size).S → T.k.D = (openP K.D size).D → T.k.bd = K.bd → StOk T → next (.tuple #[ptr T.bs, .nilIface]) (rs (stR T) :: rest))
    (go1 : (openP K.D size).code ≠ 0 → ∀ K' : DkS, K'.D = (openP K.D size).D → K'.bd = K.bd → next (.tuple #[.pointer none, errV (openP K.D size).code]) (rs (dkR K') :: rs laidR :: rest)) :
    CallP ⟨Tryz.prog, tab, N, M, B, F⟩ 19 [ptr K.bd, .int .i64 size] L next :=
  ⟨fun w hs => (cOpen (N := N) (F := F) (M := M) (B := B) (L := rs (dkR K) :: rs laidR :: rest) rest (.refl _) h1 h2 hgone hB hk hq go0 go1).go w (hL w hs)⟩
theorem PayIn.sub {w : World} {a a' : Option Addr} {c c' : Nat} {vs : List Value} {ps : List Bs} (h : PayIn w a c vs ps) (i m : Nat) (him : i + m ≤ ps.length) (hc : m ≤ c') (hr : Rd w (.slice a' m c') ((vs.drop i).take m)) : PayIn w a' c' ((vs.drop i).take m) ((ps.drop i).take m) := by
  have hl : ((ps.drop i).take m).length = m := by rw [List.length_take, List.length_drop]; omega
  have hget : ∀ {α : Type} (l : List α) (j : Nat) (u : α), ((l.drop i).take m)[j]? = some u → l[i + j]? = some u := fun l j u hu => by
    rw [List.getElem?_take] at hu
    split at hu
    · rw [List.getElem?_drop] at hu; exact hu
    · cases hu
  refine ⟨by rw [hl]; exact hr, ⟨by rw [hl, List.length_take, List.length_drop, h.pls.len]; omega, fun j v p hv hp => h.pls.sh (i + j) v p (hget _ _ _ hv) (hget _ _ _ hp)⟩, fun j v p hv hp => h.el (i + j) v p (hget _ _ _ hv) (hget _ _ _ hp), fun p hp => h.mx p (List.mem_of_mem_drop (List.mem_of_mem_take hp)), by rw [hl]; exact hc⟩
/-- the power goes and comes, where a store holds the disk -/
theorem cCrash {C : Cx} {L : List Ent} (hP : C.P = Tryz.prog) (k : Nat) {T : StS} {keep : Int} (hkeep : -9223372036854775808 ≤ keep ∧ keep ≤ 9223372036854775807) {next : Value → List Ent → Prop} (hk : L[k]? = some (rs (stR T))) (go : ∀ K' : DkS, K'.D = crashD T.k.D keep → K'.bd = T.k.bd → next (.tuple #[]) (L.set k (rs (stR { T with k := K' })))) :
    CallP C 34 [ptr T.k.bd, .int .i64 keep] L next := by
  refine cTk (α := DkS) (Φ := fun K' => K'.D = crashD T.k.D keep) (v := fun _ => .tuple #[]) (K' := id) k hk (fun w h => ?_) (fun K' h1 h2 => go K' h1 h2)
  rw [hP]
  exact (crash_any T.k keep hkeep w h).mono fun e w' ⟨S', ⟨h1, h2, h3⟩, h4, h5⟩ => ⟨S', h1, h2, h4, h5⟩
end Go.Proofs.YteamnhpplclmfaaGreatDoor
end
section
namespace Go.Proofs.YteamnhpplclmfaaGreatDoor
open Go.RowKit Go.Sx
set_option linter.unusedVariables false
def isC (zs : List Int) : List Value := zs.map fun z => .int .i64 z
theorem info_int : (Tryz.prog.info? 3).map (fun i => (i.zero, i.size, i.bytes)) = some (some (.int .i64 0), 1, 8) := by kernel_rfl
theorem und_ints : Tryz.prog.underlying 45 = some (.slice 3) := by kernel_rfl
theorem bsI2 (x y : Int) (w : World) : (Instr.buildSlice 45 2 #[(0, .int .i64 x), (1, .int .i64 y)]).run Tryz.prog w = .ok (.slice (some ⟨w.heap.size, 0, none⟩) 2 2) (w.alloc (.cells #[.int .i64 x, .int .i64 y] 3)) := by
  obtain ⟨i, hi, hz, hs, hb⟩ := infoOf info_int
  exact run_buildSlice w _ _ 2 _ #[.int .i64 x, .int .i64 y] i (.int .i64 0) und_ints hi hz (by rw [hs]; decide) (by rw [hs]; decide) (by rw [hs]; kernel_rfl)
set_option maxRecDepth 100000 in
set_option maxHeartbeats 4000000 in
theorem law_sizes (z1 z2 : Int) (hz1 : -9223372036854775808 ≤ z1 ∧ z1 ≤ 9223372036854775807) (hz2 : -9223372036854775808 ≤ z2 ∧ z2 ≤ 9223372036854775807) (a : Option Addr) (c : Nat) (vs : List Value) (ps : List Bs) (xa : Option Addr) (xc : Nat) (zs : List Int) (w : World) (hI : PayIn w a c vs ps) (hml : ps.length ≤ maxLen)
    (hZ : Rd w (.slice xa zs.length xc) (isC zs)) (hzm : zs.length ≤ maxLen) (hzb : ∀ z ∈ zs, -9223372036854775808 ≤ z ∧ z ≤ 9223372036854775807) (hw : Laid w) :
    Calls Tryz.prog 23 ([.slice a ps.length c, .int .i64 z1, .int .i64 z2, .slice xa zs.length xc] : List Value).toArray w fun e w' => e = .returned (.bool true) ∧ Below w.heap.size w w' := by
  have hxx : ∀ z : Int, (z != z) = false := fun z => bne_self_eq_false z
  refine enterV tab_ok Tryz.func23 rfl Tryz.ntmps23 rfl (St.laid hw) ?_
  intro b4 b8
  refine cvs (fun w1 hs => alive_any w1 (hs.res (k := 0) rfl)) ?_
  refine cf rfl ?_
  refine ld1 1 rfl rfl ?_
  by_cases hn : 30 < ps.length
  · have e1 : decide ((ps.length : Int) > 30) = true := decide_eq_true (by omega)
    have e2 : (decide ((ps.length : Int) > 30) == false) = false := by rw [e1]; rfl
    iterate 3 refine cf e2 ?_
    refine ct e1 ?_
    refine ct rfl ?_
    refine s1 2 rfl (by show 0 < 1; decide) ?_
    refine ld1 2 rfl rfl ?_
    exact rt rfl
  have e1 : decide ((ps.length : Int) > 30) = false := decide_eq_false (by omega)
  have e2 : (decide ((ps.length : Int) > 30) == false) = true := by rw [e1]; rfl
  iterate 3 refine ct e2 ?_
  refine cf e1 ?_
  by_cases hnz : 30 < zs.length
  · refine ct (decide_eq_true (by omega)) ?_
    refine s1 2 rfl (by show 0 < 1; decide) ?_
    refine ld1 2 rfl rfl ?_
    exact rt rfl
  refine cf (decide_eq_false (by omega)) ?_
  refine ld1 1 rfl rfl ?_
  refine lp tab_ok (fun i : Nat => i ≤ ps.length ∧ ∀ j (hj : j < ps.length), j < i → ps[j].length ≤ 300) (fun i => ⟨[(1, .int .i64 z1), (2, .int .i64 z2), (3, .slice xa zs.length xc), (4, ptr b4), (8, ptr b8), (31, .slice a ps.length c), (32, .int .i64 ps.length), (33, .int .i64 i)], [rs laidR, cl b4 #[.slice a ps.length c] 36, cl b8 #[.bool false] 4], []⟩) (fun i => ps.length - i) 0 ⟨Nat.zero_le _, fun j hj h => by cases h⟩ ⟨⟨rfl, rfl, rfl, rfl, rfl, rfl, rfl, rfl, trivial⟩, Sub.refl _, rfl⟩ ?_
  rintro i ⟨hi, hsm⟩
  refine cd (fun h => ?_) (fun h => ?_)
  · have hlt : i < ps.length := by omega
    have hne : vs ≠ [] := fun e => by have := hI.pls.len; rw [e] at this; simp at this; omega
    obtain ⟨pb, po, rfl⟩ := hI.row.addr hne
    obtain ⟨pa, pc, hpv⟩ := hI.pls.at (i := i) (p := ps[i]) (by simp [hlt])
    refine ⟨by omega, by omega, ?_⟩
    refine ldo (hI.row.at hpv rfl) (hI.row.lt0 hne) ?_
    by_cases h300 : 300 < ps[i].length
    · refine ct (decide_eq_true (by omega)) ?_
      refine s1 2 rfl (by show 0 < 1; decide) ?_
      refine ld1 2 rfl rfl ?_
      exact rt rfl
    refine cf (decide_eq_false (by omega)) ?_
    refine .as ((i + 1 : Nat) : Int) (by omega) (by simp only [mn]; omega) (by simp only [mx]; omega) ?_
    refine ⟨i + 1, ⟨hlt, fun j hj h => ?_⟩, by omega, ⟨⟨rfl, rfl, rfl, rfl, rfl, rfl, rfl, rfl, trivial⟩, .cons (.cons (.cons .nil)), rfl⟩⟩
    by_cases hji : j = i
    · subst hji; omega
    · exact hsm j hj (by omega)
  have h300 : ∀ p ∈ ps, p.length ≤ 300 := fun p hp => by
    obtain ⟨j, hj, rfl⟩ := List.getElem_of_mem hp
    exact hsm j hj (by omega)
  obtain ⟨Q1, hQ1⟩ := conv_u z1 hz1
  obtain ⟨Q2, hQ2⟩ := conv_u z2 hz2
  refine .to (Q1 : Int) (by show z1 % 18446744073709551616 = _; exact hQ1) ?_
  refine ⟨by omega, by simp only [mx]; omega, by decide, ?_⟩
  refine .as ((Q1 % 500 : Nat) : Int) (by omega) (by simp only [mn]; omega) (by simp only [mx]; omega) ?_
  have hqa : Q1 % 500 < 500 := Nat.mod_lt _ (by decide)
  have hqb : Q2 % 500 < 500 := Nat.mod_lt _ (by decide)
  obtain ⟨qa, hqae⟩ : ∃ qa, qa = Q1 % 500 := ⟨_, rfl⟩
  obtain ⟨qb, hqbe⟩ : ∃ qb, qb = Q2 % 500 := ⟨_, rfl⟩
  rw [← hqae] at hqa ⊢
  rw [← hqbe] at hqb
  refine .as ((64 + qa : Nat) : Int) (by omega) (by simp only [mn]; omega) (by simp only [mx]; omega) ?_
  refine .to (Q2 : Int) (by show z2 % 18446744073709551616 = _; exact hQ2) ?_
  refine ⟨by omega, by simp only [mx]; omega, by decide, ?_⟩
  refine .as ((Q2 % 500 : Nat) : Int) (by omega) (by simp only [mn]; omega) (by simp only [mx]; omega) ?_
  rw [← hqbe]
  refine .as ((64 + qb : Nat) : Int) (by omega) (by simp only [mn]; omega) (by simp only [mx]; omega) ?_
  refine .mk _ _ (bsI2 _ _) (fun bz => ?_)
  refine lp tab_ok (fun y : Nat × List Nat => y.2.length = y.1 ∧ y.1 ≤ 2) (fun y => ⟨[(3, .slice xa zs.length xc), (4, ptr b4), (8, ptr b8), (51, .slice (some ⟨bz, 0, none⟩) 2 2), (52, .int .i64 (2 : Nat)), (53, .int .i64 y.1)], [rs laidR, cl b4 #[.slice a ps.length c] 36, cl b8 #[.bool false] 4, cl bz #[.int .i64 ((64 + qa : Nat) : Int), .int .i64 ((64 + qb : Nat) : Int)] 3] ++ y.2.reverse.map (fun b => ⟨b, some (.deferred (some [])), false, none⟩), y.2.map fun b => { target := .collected b, args := #[] }⟩) (fun y => 2 - y.1)
    (0, []) ⟨rfl, by decide⟩ ⟨⟨rfl, rfl, rfl, rfl, rfl, rfl, trivial⟩, Sub.refl _, rfl⟩ ?_
  rintro ⟨i, ds⟩ ⟨hds, hi2⟩
  dsimp only at hds hi2 ⊢
  match i, ds, hds, hi2 with
  | 0, [], _, _ =>
    refine ct rfl ?_
    refine ⟨by decide, by decide, ?_⟩
    refine ld1 3 rfl (v := .int .i64 (((64 + qa) : Nat) : Int)) rfl ?_
    refine cM (α := Nat × Nat) (Φ := fun _ => True) (v := fun x => .tuple #[ptr x.1, .nilIface]) (r' := fun x => dkR (dk0 1048576 x.1 x.2)) (fun w1 hs => (new_any 1048576 (by decide) w1).mono fun e w' ⟨x, h1, h2, h3, h4, h5, h6⟩ => ⟨x, h1, h2, h3, h4, h5, fun k hk => (h6 k hk).elim⟩) (fun x _ => ?_)
    refine cf rfl ?_
    obtain ⟨z1, z2, z3, z4, z5, z6⟩ := open_zero 1048576 (64 + qa)
    have hb0 : Bd 1048576 0 (dk0 1048576 x.1 x.2).D := Bd.zero 1048576
    have hA0 := An.zero ps (64 + qa)
    refine cOpen2 (K := dk0 1048576 x.1 x.2) (size := (64 + qa)) [rs laidR, cl b4 #[.slice a ps.length c] 36, cl b8 #[.bool false] 4, cl bz #[.int .i64 ((64 + qa : Nat) : Int), .int .i64 ((64 + qb : Nat) : Int)] 3] (fun w1 hs => ?_) (by omega) (by omega) rfl hb0 (by decide) (by decide) (fun _ T0 hS0 hD0 hbd0 hok0 => ?_) (fun h => absurd z1 h)
    · exact (St.dupL hs 0 rfl).perm (List.perm_append_comm (l₁ := [rs (dkR (dk0 1048576 x.1 x.2))]) (l₂ := rs laidR :: [rs laidR, cl b4 #[.slice a ps.length c] 36, cl b8 #[.bool false] 4, cl bz #[.int .i64 ((64 + qa : Nat) : Int), .int .i64 ((64 + qb : Nat) : Int)] 3]))
    refine cf rfl ?_
    have hbT : Bd 1048576 6 T0.k.D := by rw [hD0]; exact hb0.open (64 + qa)
    have hAT : An ps 0 T0.S T0.k.D := by rw [hS0, hD0]; exact hA0
    refine lp tab_ok (fun y : Nat × Nat × StS => y.1 ≤ ps.length ∧ y.2.1 ≤ y.1 ∧ StOk y.2.2 ∧ y.2.2.bs = T0.bs ∧ y.2.2.k.bd = x.1 ∧ An ps y.1 y.2.2.S y.2.2.k.D ∧ Bd 1048576 (6 + 5 * y.1) y.2.2.k.D)
      (fun y => ⟨[(3, .slice xa zs.length xc), (4, ptr b4), (8, ptr b8), (51, .slice (some ⟨bz, 0, none⟩) 2 2), (52, .int .i64 (2 : Nat)), (53, .int .i64 ((0 : Nat) : Int)), (12, .int .i64 (((64 + qa) : Nat) : Int)), (13, ptr x.1), (15, ptr T0.bs), (16, .int .i64 y.1), (17, .int .i64 y.2.1)], [rs (stR y.2.2), rs laidR, cl b4 #[.slice a ps.length c] 36, cl b8 #[.bool false] 4, cl bz #[.int .i64 ((64 + qa : Nat) : Int), .int .i64 ((64 + qb : Nat) : Int)] 3], []⟩) (fun y => ps.length - y.1)
      (0, 0, T0) ⟨Nat.zero_le _, Nat.le_refl _, hok0, rfl, hbd0, hAT, hbT⟩ ⟨⟨rfl, rfl, rfl, rfl, rfl, rfl, rfl, rfl, rfl, rfl, rfl, trivial⟩, Sub.refl _, rfl⟩ ?_
    rintro ⟨at1, n1, T⟩ ⟨hat, hn1, hok, hbs, hbd, hA, hB⟩
    dsimp only at hat hn1 hok hbs hbd hA hB ⊢
    refine ld1 2 rfl rfl ?_
    refine cd (fun h => ?_) (fun h => ?_)
    · have hlt : at1 < ps.length := by omega
      have hne : a ≠ none := fun e => by
        subst e
        obtain ⟨b, o, h1⟩ := hI.row.addr (fun e => by have := hI.pls.len; rw [e] at this; simp at this; omega)
        cases h1
      refine cd (fun hn => ?_) (fun hn => ?_)
      · have hnz : n1 < zs.length := by omega
        have hzne : isC zs ≠ [] := fun e => by have := congrArg List.length e; simp [isC] at this; rw [this] at hnz; simp at hnz
        obtain ⟨xb, xo, rfl⟩ := hZ.addr hzne
        have hzg : (isC zs)[n1]? = some (.int .i64 zs[n1]) := by simp [isC, hnz]
        obtain ⟨Q, hQ⟩ := conv_u zs[n1] (hzb _ (List.getElem_mem hnz))
        refine ⟨by omega, by omega, ?_⟩
        refine ldo (hZ.at hzg rfl) (hZ.lt0 hzne) ?_
        refine .to (Q : Int) (by show zs[n1] % 18446744073709551616 = _; exact hQ) ?_
        refine ⟨by omega, by simp only [mx]; omega, by decide, ?_⟩
        refine .as ((Q % 4 : Nat) : Int) (by omega) (by simp only [mn]; omega) (by simp only [mx]; omega) ?_
        refine .as ((1 + Q % 4 : Nat) : Int) (by omega) (by simp only [mn]; omega) (by simp only [mx]; omega) ?_
        obtain ⟨k0, hk0⟩ : ∃ k0, k0 = 1 + Q % 4 := ⟨_, rfl⟩
        rw [← hk0]
        have hk4 : k0 ≤ 4 := by omega
        have hk1 : 1 ≤ k0 := by omega
        refine ld1 2 rfl rfl ?_
        refine .as ((ps.length - at1 : Nat) : Int) (by omega) (by simp only [mn]; omega) (by simp only [mx]; omega) ?_
        refine biMin ?_
        obtain ⟨kk, hkk⟩ : ∃ kk : Nat, kk = min k0 (ps.length - at1) := ⟨_, rfl⟩
        rw [show min ((k0 : Nat) : Int) ((ps.length - at1 : Nat) : Int) = ((kk : Nat) : Int) by omega]
        have hkk1 : 1 ≤ kk := by omega
        have hkk2 : at1 + kk ≤ ps.length := by omega
        refine ld1 2 rfl rfl ?_
        refine .as ((at1 + kk : Nat) : Int) (by omega) (by simp only [mn]; omega) (by simp only [mx]; omega) ?_
        refine slMidV (i := at1) (j := at1 + kk) (fun q hq => ?_) (by omega) (Nat.le_trans hkk2 hI.cap) hne (fun a' hra => ?_)
        · obtain ⟨b, o, h1⟩ := hI.row.addr (fun e => by have := hI.pls.len; rw [e] at this; simp at this; omega)
          rw [h1] at hq; obtain rfl := Option.some.inj hq; rfl
        have hsub := hI.sub (c' := c - at1) at1 kk (by omega) (by have := hI.cap; omega) (by have := hra w vs hI.row (by rw [hI.pls.len]; exact hkk2); rwa [show at1 + kk - at1 = kk by omega] at this)
        have hsl : ((ps.drop at1).take kk).length = kk := by rw [List.length_take, List.length_drop]; omega
        rw [show at1 + kk - at1 = kk by omega, ← hbs]
        obtain ⟨r1, r2⟩ := hA.step hkk1 (by omega) hkk2 (by omega) h300
        refine cTs 0 (x := (appendS ⟨T.S, T.k.D⟩ ((ps.drop at1).take kk)).1) (code := (appendS ⟨T.S, T.k.D⟩ ((ps.drop at1).take kk)).2) rfl (fun w1 hs => ?_) (fun T' e1 e2 e3 e4 e5 => ?_)
        · have := appS_any T hok _ a' (c - at1) ((vs.drop at1).take kk) ((ps.drop at1).take kk) hsub.pls (by omega) hsub.mx (by rw [hA.pl, List.length_take]; omega) (by have := hA.la; omega) (by have := hA.le; omega) hB (by omega) (by decide) w1 (hs.res (k := 0) rfl) (arg_in hs 0 rfl hsub)
          rw [hsl] at this
          exact this
        rw [r1]
        rw [← e1, ← e2] at r2
        have hB' : Bd 1048576 (6 + 5 * (at1 + kk)) T'.k.D := by rw [e2]; exact (Bd.appS (x := ⟨T.S, T.k.D⟩) hB _).le (by rw [hsl]; omega)
        refine cf rfl ?_
        refine .as ((at1 + kk : Nat) : Int) (by omega) (by simp only [mn]; omega) (by simp only [mx]; omega) ?_
        refine .as ((n1 + 1 : Nat) : Int) (by omega) (by simp only [mn]; omega) (by simp only [mx]; omega) ?_
        rw [← e3]
        exact ⟨(at1 + kk, n1 + 1, T'), ⟨hkk2, by dsimp only; omega, e5, rfl, e4.trans hbd, r2, hB'⟩, by dsimp only; omega, ⟨⟨rfl, rfl, rfl, rfl, rfl, rfl, rfl, rfl, rfl, rfl, rfl, trivial⟩, (.cons (.cons (.cons (.cons (.cons .nil))))), rfl⟩⟩
      · obtain ⟨k0, hk0⟩ : ∃ k0 : Nat, k0 = 1 := ⟨_, rfl⟩
        rw [show (Value.int .i64 1) = Value.int .i64 ((k0 : Nat) : Int) by rw [hk0]; rfl]
        have hk4 : k0 ≤ 4 := by omega
        have hk1 : 1 ≤ k0 := by omega
        refine ld1 2 rfl rfl ?_
        refine .as ((ps.length - at1 : Nat) : Int) (by omega) (by simp only [mn]; omega) (by simp only [mx]; omega) ?_
        refine biMin ?_
        obtain ⟨kk, hkk⟩ : ∃ kk : Nat, kk = min k0 (ps.length - at1) := ⟨_, rfl⟩
        rw [show min ((k0 : Nat) : Int) ((ps.length - at1 : Nat) : Int) = ((kk : Nat) : Int) by omega]
        have hkk1 : 1 ≤ kk := by omega
        have hkk2 : at1 + kk ≤ ps.length := by omega
        refine ld1 2 rfl rfl ?_
        refine .as ((at1 + kk : Nat) : Int) (by omega) (by simp only [mn]; omega) (by simp only [mx]; omega) ?_
        refine slMidV (i := at1) (j := at1 + kk) (fun q hq => ?_) (by omega) (Nat.le_trans hkk2 hI.cap) hne (fun a' hra => ?_)
        · obtain ⟨b, o, h1⟩ := hI.row.addr (fun e => by have := hI.pls.len; rw [e] at this; simp at this; omega)
          rw [h1] at hq; obtain rfl := Option.some.inj hq; rfl
        have hsub := hI.sub (c' := c - at1) at1 kk (by omega) (by have := hI.cap; omega) (by have := hra w vs hI.row (by rw [hI.pls.len]; exact hkk2); rwa [show at1 + kk - at1 = kk by omega] at this)
        have hsl : ((ps.drop at1).take kk).length = kk := by rw [List.length_take, List.length_drop]; omega
        rw [show at1 + kk - at1 = kk by omega, ← hbs]
        obtain ⟨r1, r2⟩ := hA.step hkk1 (by omega) hkk2 (by omega) h300
        refine cTs 0 (x := (appendS ⟨T.S, T.k.D⟩ ((ps.drop at1).take kk)).1) (code := (appendS ⟨T.S, T.k.D⟩ ((ps.drop at1).take kk)).2) rfl (fun w1 hs => ?_) (fun T' e1 e2 e3 e4 e5 => ?_)
        · have := appS_any T hok _ a' (c - at1) ((vs.drop at1).take kk) ((ps.drop at1).take kk) hsub.pls (by omega) hsub.mx (by rw [hA.pl, List.length_take]; omega) (by have := hA.la; omega) (by have := hA.le; omega) hB (by omega) (by decide) w1 (hs.res (k := 0) rfl) (arg_in hs 0 rfl hsub)
          rw [hsl] at this
          exact this
        rw [r1]
        rw [← e1, ← e2] at r2
        have hB' : Bd 1048576 (6 + 5 * (at1 + kk)) T'.k.D := by rw [e2]; exact (Bd.appS (x := ⟨T.S, T.k.D⟩) hB _).le (by rw [hsl]; omega)
        refine cf rfl ?_
        refine .as ((at1 + kk : Nat) : Int) (by omega) (by simp only [mn]; omega) (by simp only [mx]; omega) ?_
        refine .as ((n1 + 1 : Nat) : Int) (by omega) (by simp only [mn]; omega) (by simp only [mx]; omega) ?_
        rw [← e3]
        exact ⟨(at1 + kk, n1 + 1, T'), ⟨hkk2, by dsimp only; omega, e5, rfl, e4.trans hbd, r2, hB'⟩, by dsimp only; omega, ⟨⟨rfl, rfl, rfl, rfl, rfl, rfl, rfl, rfl, rfl, rfl, rfl, trivial⟩, (.cons (.cons (.cons (.cons (.cons .nil))))), rfl⟩⟩
    · obtain rfl : at1 = ps.length := by omega
      rw [← hbs]
      obtain ⟨s1, Ss, P, s2, s3⟩ := hA.sync
      refine cTs 0 (x := (syncS ⟨T.S, T.k.D⟩).1) (code := (syncS ⟨T.S, T.k.D⟩).2) rfl (fun w1 hs => syncS_any T hok (by have := hA.la; omega) hB (by omega) w1 (hs.res (k := 0) rfl)) (fun T1 e1 e2 e3 e4 e5 => ?_)
      rw [s1]
      rw [← e2] at s2
      have hB1 : Bd 1048576 (7 + 5 * ps.length) T1.k.D := by rw [e2]; exact (Bd.syncS (x := ⟨T.S, T.k.D⟩) hB).le (by omega)
      refine cf rfl ?_
      rw [← hbd, ← e4]
      refine cCrash (keep := 0) rfl 0 (by decide) rfl (fun K1 k1 k2 => ?_)
      have hB2 : Bd 1048576 (7 + 5 * ps.length) K1.D := by rw [k1]; exact hB1.crash 0
      obtain ⟨j, j1, j2, o1, o2, o3, o4, o5, o6⟩ := open_plain s2 0 (64 + qa)
      rw [← k1] at o1 o2 o3 o4 o5 o6
      obtain rfl : j = P.length := by omega
      rw [List.take_length, s3, hA.pl, List.take_length] at o2
      rw [← k2]
      refine cOpen2 (K := K1) (size := (64 + qa)) [rs laidR, cl b4 #[.slice a ps.length c] 36, cl b8 #[.bool false] 4, cl bz #[.int .i64 ((64 + qa : Nat) : Int), .int .i64 ((64 + qb : Nat) : Int)] 3] (fun w1 hs => (St.unst hs)) (by omega) (by omega) (by rw [k1]; rfl) hB2 (by omega) (by decide) (fun _ T2 hS2 hD2 hbd2 hok2 => ?_) (fun h => absurd o1 h)
      rw [o2] at hS2
      have hpl2 : T2.S.pl = ps := by rw [hS2]
      obtain ⟨va, vc, hva⟩ := sv_sl hok2.row
      refine dr [rs (stR T2), dead, cl b4 #[.slice a ps.length c] 36] 99 (.t 0 (.t 1 (.t 2 (.t 3 (.t 4 (.t 5 (.t 6 (.t 7 (.t 8 .nil))))))))) tab_ok mixed_ok (by kernel_rfl) (.cons (.dead (.cons .nil))) ?_
      iterate 2 refine ct rfl ?_
      refine czs (fun w1 hs => by have := stR_cl (hs.res (k := 0) rfl); rw [hva] at this; exact len_any this) ?_
      rw [show T2.S.pl.length = ps.length by rw [hpl2]]
      refine ct rfl ?_
      refine ld1 2 rfl rfl ?_
      iterate 2 refine ct rfl ?_
      refine cf rfl ?_
      refine cf (hxx _) ?_
      refine inl (C := ⟨Tryz.prog, tab, _, [], w, _⟩) tab_ok Tryz.func10 rfl Tryz.ntmps10 rfl ?_
      intro b1
      refine bk ?_
      refine CodeP.from (L' := [rs (stR T2), rs laidR, cl b4 #[.slice a ps.length c] 36, cl b8 #[.bool false] 4, cl bz #[.int .i64 ((64 + qa : Nat) : Int), .int .i64 ((64 + qb : Nat) : Int)] 3, cl b1 #[ptr T2.bs] TPS, rs (rdR (rowB0 w) (.slice a ps.length c) vs), rs (psR (rowB0 w) vs ps)]) (fun w1 hs => hI.push hs) ?_
      refine rfiO (C := ⟨Tryz.prog, tab, 139, [], w, none⟩) (L0 := [rs (stR T2), rs laidR, cl b4 #[.slice a ps.length c] 36, cl b8 #[.bool false] 4, cl bz #[.int .i64 ((64 + qa : Nat) : Int), .int .i64 ((64 + qb : Nat) : Int)] 3, cl b1 #[ptr T2.bs] TPS, rs (rdR (rowB0 w) (.slice a ps.length c) vs), rs (psR (rowB0 w) vs ps)]) (α := Unit) (β := Empty) tab_ok rfl rfl rfl
        (stall_itr b1 T2 hok2 (by rw [hpl2]; omega) (fun p hp => by rw [hpl2] at hp; have := h300 p hp; omega)) (fun _ _ => True) (fun _ _ => []) (fun y => y.elim) (fun y => y.elim) () trivial ?_
        (fun w' hs => ⟨⟨hs.nth (k := 5) rfl, hs.res (k := 0) rfl⟩, fun b hb e he => by cases he⟩) ?_ ?_ ?_ ?_
      · exact .refl _
      · rintro i args q j ⟨p, r, _, rfl, _⟩; rfl
      · rintro lq j args q j' _ w' ready busy ⟨p, r, hpj, rfl, rfl, hR, rfl⟩ _
        rw [hpl2] at hpj
        have hjl := (List.getElem?_eq_some_iff.1 hpj).1
        have hne : vs ≠ [] := fun e => by have := hI.pls.len; rw [e] at this; simp at this; omega
        obtain ⟨pb, po, rfl⟩ := hI.row.addr hne
        obtain ⟨pa, pc, hpv⟩ := hI.pls.at hpj
        refine ⟨rfl, ?_⟩
        refine ld1 2 rfl rfl ?_
        refine ⟨by omega, by omega, ?_⟩
        refine .mk (.slice pa p.length pc) (fun w2 hs => (St.resR hs (k := 6) (r := rdR (rowB0 w) (.slice (some ⟨pb, po, none⟩) ps.length c) vs) rfl).1.rd.at hpv rfl) ?_
        refine cvs (fun w2 hs => same_yes _ _ p w2 (Rd.own hs 8 rfl hR) ((St.resR hs (k := 7) (r := psR (rowB0 w) vs ps) rfl).1 j _ _ hpv hpj).rd) ?_
        refine cf rfl ?_
        exact ⟨(), trivial, (.drop (.drop (.drop (.drop (.drop (.drop (.drop (.drop (.drop (.cons .nil)))))))))), fun e he => by cases he⟩
      · rintro j y b0 _ _
        refine .as (1 : Int) (by decide) (by decide) (by decide) ?_
        exact ⟨(1, [b0]), ⟨rfl, by show 1 ≤ 2; decide⟩, by show 2 - 1 < 2 - 0; decide, ⟨⟨rfl, rfl, rfl, rfl, rfl, rfl, trivial⟩, (.drop (.cons (.cons (.cons (.cons (.drop (.drop (.drop (.cons .nil))))))))), rfl⟩⟩
      · intro y; exact y.elim
  | 1, [d1], _, _ =>
    refine ct rfl ?_
    refine ⟨by decide, by decide, ?_⟩
    refine ld1 3 rfl (v := .int .i64 (((64 + qb) : Nat) : Int)) rfl ?_
    refine cM (α := Nat × Nat) (Φ := fun _ => True) (v := fun x => .tuple #[ptr x.1, .nilIface]) (r' := fun x => dkR (dk0 1048576 x.1 x.2)) (fun w1 hs => (new_any 1048576 (by decide) w1).mono fun e w' ⟨x, h1, h2, h3, h4, h5, h6⟩ => ⟨x, h1, h2, h3, h4, h5, fun k hk => (h6 k hk).elim⟩) (fun x _ => ?_)
    refine cf rfl ?_
    obtain ⟨z1, z2, z3, z4, z5, z6⟩ := open_zero 1048576 (64 + qb)
    have hb0 : Bd 1048576 0 (dk0 1048576 x.1 x.2).D := Bd.zero 1048576
    have hA0 := An.zero ps (64 + qb)
    refine cOpen2 (K := dk0 1048576 x.1 x.2) (size := (64 + qb)) [rs laidR, cl b4 #[.slice a ps.length c] 36, cl b8 #[.bool false] 4, cl bz #[.int .i64 ((64 + qa : Nat) : Int), .int .i64 ((64 + qb : Nat) : Int)] 3, ⟨d1, some (.deferred (some [])), false, none⟩] (fun w1 hs => ?_) (by omega) (by omega) rfl hb0 (by decide) (by decide) (fun _ T0 hS0 hD0 hbd0 hok0 => ?_) (fun h => absurd z1 h)
    · exact (St.dupL hs 0 rfl).perm (List.perm_append_comm (l₁ := [rs (dkR (dk0 1048576 x.1 x.2))]) (l₂ := rs laidR :: [rs laidR, cl b4 #[.slice a ps.length c] 36, cl b8 #[.bool false] 4, cl bz #[.int .i64 ((64 + qa : Nat) : Int), .int .i64 ((64 + qb : Nat) : Int)] 3, ⟨d1, some (.deferred (some [])), false, none⟩]))
    refine cf rfl ?_
    have hbT : Bd 1048576 6 T0.k.D := by rw [hD0]; exact hb0.open (64 + qb)
    have hAT : An ps 0 T0.S T0.k.D := by rw [hS0, hD0]; exact hA0
    refine lp tab_ok (fun y : Nat × Nat × StS => y.1 ≤ ps.length ∧ y.2.1 ≤ y.1 ∧ StOk y.2.2 ∧ y.2.2.bs = T0.bs ∧ y.2.2.k.bd = x.1 ∧ An ps y.1 y.2.2.S y.2.2.k.D ∧ Bd 1048576 (6 + 5 * y.1) y.2.2.k.D)
      (fun y => ⟨[(3, .slice xa zs.length xc), (4, ptr b4), (8, ptr b8), (51, .slice (some ⟨bz, 0, none⟩) 2 2), (52, .int .i64 (2 : Nat)), (53, .int .i64 ((1 : Nat) : Int)), (12, .int .i64 (((64 + qb) : Nat) : Int)), (13, ptr x.1), (15, ptr T0.bs), (16, .int .i64 y.1), (17, .int .i64 y.2.1)], [rs (stR y.2.2), rs laidR, cl b4 #[.slice a ps.length c] 36, cl b8 #[.bool false] 4, cl bz #[.int .i64 ((64 + qa : Nat) : Int), .int .i64 ((64 + qb : Nat) : Int)] 3, ⟨d1, some (.deferred (some [])), false, none⟩], [{ target := .collected d1, args := #[] }]⟩) (fun y => ps.length - y.1)
      (0, 0, T0) ⟨Nat.zero_le _, Nat.le_refl _, hok0, rfl, hbd0, hAT, hbT⟩ ⟨⟨rfl, rfl, rfl, rfl, rfl, rfl, rfl, rfl, rfl, rfl, rfl, trivial⟩, Sub.refl _, rfl⟩ ?_
    rintro ⟨at1, n1, T⟩ ⟨hat, hn1, hok, hbs, hbd, hA, hB⟩
    dsimp only at hat hn1 hok hbs hbd hA hB ⊢
    refine ld1 2 rfl rfl ?_
    refine cd (fun h => ?_) (fun h => ?_)
    · have hlt : at1 < ps.length := by omega
      have hne : a ≠ none := fun e => by
        subst e
        obtain ⟨b, o, h1⟩ := hI.row.addr (fun e => by have := hI.pls.len; rw [e] at this; simp at this; omega)
        cases h1
      refine cd (fun hn => ?_) (fun hn => ?_)
      · have hnz : n1 < zs.length := by omega
        have hzne : isC zs ≠ [] := fun e => by have := congrArg List.length e; simp [isC] at this; rw [this] at hnz; simp at hnz
        obtain ⟨xb, xo, rfl⟩ := hZ.addr hzne
        have hzg : (isC zs)[n1]? = some (.int .i64 zs[n1]) := by simp [isC, hnz]
        obtain ⟨Q, hQ⟩ := conv_u zs[n1] (hzb _ (List.getElem_mem hnz))
        refine ⟨by omega, by omega, ?_⟩
        refine ldo (hZ.at hzg rfl) (hZ.lt0 hzne) ?_
        refine .to (Q : Int) (by show zs[n1] % 18446744073709551616 = _; exact hQ) ?_
        refine ⟨by omega, by simp only [mx]; omega, by decide, ?_⟩
        refine .as ((Q % 4 : Nat) : Int) (by omega) (by simp only [mn]; omega) (by simp only [mx]; omega) ?_
        refine .as ((1 + Q % 4 : Nat) : Int) (by omega) (by simp only [mn]; omega) (by simp only [mx]; omega) ?_
        obtain ⟨k0, hk0⟩ : ∃ k0, k0 = 1 + Q % 4 := ⟨_, rfl⟩
        rw [← hk0]
        have hk4 : k0 ≤ 4 := by omega
        have hk1 : 1 ≤ k0 := by omega
        refine ld1 2 rfl rfl ?_
        refine .as ((ps.length - at1 : Nat) : Int) (by omega) (by simp only [mn]; omega) (by simp only [mx]; omega) ?_
        refine biMin ?_
        obtain ⟨kk, hkk⟩ : ∃ kk : Nat, kk = min k0 (ps.length - at1) := ⟨_, rfl⟩
        rw [show min ((k0 : Nat) : Int) ((ps.length - at1 : Nat) : Int) = ((kk : Nat) : Int) by omega]
        have hkk1 : 1 ≤ kk := by omega
        have hkk2 : at1 + kk ≤ ps.length := by omega
        refine ld1 2 rfl rfl ?_
        refine .as ((at1 + kk : Nat) : Int) (by omega) (by simp only [mn]; omega) (by simp only [mx]; omega) ?_
        refine slMidV (i := at1) (j := at1 + kk) (fun q hq => ?_) (by omega) (Nat.le_trans hkk2 hI.cap) hne (fun a' hra => ?_)
        · obtain ⟨b, o, h1⟩ := hI.row.addr (fun e => by have := hI.pls.len; rw [e] at this; simp at this; omega)
          rw [h1] at hq; obtain rfl := Option.some.inj hq; rfl
        have hsub := hI.sub (c' := c - at1) at1 kk (by omega) (by have := hI.cap; omega) (by have := hra w vs hI.row (by rw [hI.pls.len]; exact hkk2); rwa [show at1 + kk - at1 = kk by omega] at this)
        have hsl : ((ps.drop at1).take kk).length = kk := by rw [List.length_take, List.length_drop]; omega
        rw [show at1 + kk - at1 = kk by omega, ← hbs]
        obtain ⟨r1, r2⟩ := hA.step hkk1 (by omega) hkk2 (by omega) h300
        refine cTs 0 (x := (appendS ⟨T.S, T.k.D⟩ ((ps.drop at1).take kk)).1) (code := (appendS ⟨T.S, T.k.D⟩ ((ps.drop at1).take kk)).2) rfl (fun w1 hs => ?_) (fun T' e1 e2 e3 e4 e5 => ?_)
        · have := appS_any T hok _ a' (c - at1) ((vs.drop at1).take kk) ((ps.drop at1).take kk) hsub.pls (by omega) hsub.mx (by rw [hA.pl, List.length_take]; omega) (by have := hA.la; omega) (by have := hA.le; omega) hB (by omega) (by decide) w1 (hs.res (k := 0) rfl) (arg_in hs 0 rfl hsub)
          rw [hsl] at this
          exact this
        rw [r1]
        rw [← e1, ← e2] at r2
        have hB' : Bd 1048576 (6 + 5 * (at1 + kk)) T'.k.D := by rw [e2]; exact (Bd.appS (x := ⟨T.S, T.k.D⟩) hB _).le (by rw [hsl]; omega)
        refine cf rfl ?_
        refine .as ((at1 + kk : Nat) : Int) (by omega) (by simp only [mn]; omega) (by simp only [mx]; omega) ?_
        refine .as ((n1 + 1 : Nat) : Int) (by omega) (by simp only [mn]; omega) (by simp only [mx]; omega) ?_
        rw [← e3]
        exact ⟨(at1 + kk, n1 + 1, T'), ⟨hkk2, by dsimp only; omega, e5, rfl, e4.trans hbd, r2, hB'⟩, by dsimp only; omega, ⟨⟨rfl, rfl, rfl, rfl, rfl, rfl, rfl, rfl, rfl, rfl, rfl, trivial⟩, (.cons (.cons (.cons (.cons (.cons (.cons .nil)))))), rfl⟩⟩
      · obtain ⟨k0, hk0⟩ : ∃ k0 : Nat, k0 = 1 := ⟨_, rfl⟩
        rw [show (Value.int .i64 1) = Value.int .i64 ((k0 : Nat) : Int) by rw [hk0]; rfl]
        have hk4 : k0 ≤ 4 := by omega
        have hk1 : 1 ≤ k0 := by omega
        refine ld1 2 rfl rfl ?_
        refine .as ((ps.length - at1 : Nat) : Int) (by omega) (by simp only [mn]; omega) (by simp only [mx]; omega) ?_
        refine biMin ?_
        obtain ⟨kk, hkk⟩ : ∃ kk : Nat, kk = min k0 (ps.length - at1) := ⟨_, rfl⟩
        rw [show min ((k0 : Nat) : Int) ((ps.length - at1 : Nat) : Int) = ((kk : Nat) : Int) by omega]
        have hkk1 : 1 ≤ kk := by omega
        have hkk2 : at1 + kk ≤ ps.length := by omega
        refine ld1 2 rfl rfl ?_
        refine .as ((at1 + kk : Nat) : Int) (by omega) (by simp only [mn]; omega) (by simp only [mx]; omega) ?_
        refine slMidV (i := at1) (j := at1 + kk) (fun q hq => ?_) (by omega) (Nat.le_trans hkk2 hI.cap) hne (fun a' hra => ?_)
        · obtain ⟨b, o, h1⟩ := hI.row.addr (fun e => by have := hI.pls.len; rw [e] at this; simp at this; omega)
          rw [h1] at hq; obtain rfl := Option.some.inj hq; rfl
        have hsub := hI.sub (c' := c - at1) at1 kk (by omega) (by have := hI.cap; omega) (by have := hra w vs hI.row (by rw [hI.pls.len]; exact hkk2); rwa [show at1 + kk - at1 = kk by omega] at this)
        have hsl : ((ps.drop at1).take kk).length = kk := by rw [List.length_take, List.length_drop]; omega
        rw [show at1 + kk - at1 = kk by omega, ← hbs]
        obtain ⟨r1, r2⟩ := hA.step hkk1 (by omega) hkk2 (by omega) h300
        refine cTs 0 (x := (appendS ⟨T.S, T.k.D⟩ ((ps.drop at1).take kk)).1) (code := (appendS ⟨T.S, T.k.D⟩ ((ps.drop at1).take kk)).2) rfl (fun w1 hs => ?_) (fun T' e1 e2 e3 e4 e5 => ?_)
        · have := appS_any T hok _ a' (c - at1) ((vs.drop at1).take kk) ((ps.drop at1).take kk) hsub.pls (by omega) hsub.mx (by rw [hA.pl, List.length_take]; omega) (by have := hA.la; omega) (by have := hA.le; omega) hB (by omega) (by decide) w1 (hs.res (k := 0) rfl) (arg_in hs 0 rfl hsub)
          rw [hsl] at this
          exact this
        rw [r1]
        rw [← e1, ← e2] at r2
        have hB' : Bd 1048576 (6 + 5 * (at1 + kk)) T'.k.D := by rw [e2]; exact (Bd.appS (x := ⟨T.S, T.k.D⟩) hB _).le (by rw [hsl]; omega)
        refine cf rfl ?_
        refine .as ((at1 + kk : Nat) : Int) (by omega) (by simp only [mn]; omega) (by simp only [mx]; omega) ?_
        refine .as ((n1 + 1 : Nat) : Int) (by omega) (by simp only [mn]; omega) (by simp only [mx]; omega) ?_
        rw [← e3]
        exact ⟨(at1 + kk, n1 + 1, T'), ⟨hkk2, by dsimp only; omega, e5, rfl, e4.trans hbd, r2, hB'⟩, by dsimp only; omega, ⟨⟨rfl, rfl, rfl, rfl, rfl, rfl, rfl, rfl, rfl, rfl, rfl, trivial⟩, (.cons (.cons (.cons (.cons (.cons (.cons .nil)))))), rfl⟩⟩
    · obtain rfl : at1 = ps.length := by omega
      rw [← hbs]
      obtain ⟨s1, Ss, P, s2, s3⟩ := hA.sync
      refine cTs 0 (x := (syncS ⟨T.S, T.k.D⟩).1) (code := (syncS ⟨T.S, T.k.D⟩).2) rfl (fun w1 hs => syncS_any T hok (by have := hA.la; omega) hB (by omega) w1 (hs.res (k := 0) rfl)) (fun T1 e1 e2 e3 e4 e5 => ?_)
      rw [s1]
      rw [← e2] at s2
      have hB1 : Bd 1048576 (7 + 5 * ps.length) T1.k.D := by rw [e2]; exact (Bd.syncS (x := ⟨T.S, T.k.D⟩) hB).le (by omega)
      refine cf rfl ?_
      rw [← hbd, ← e4]
      refine cCrash (keep := 0) rfl 0 (by decide) rfl (fun K1 k1 k2 => ?_)
      have hB2 : Bd 1048576 (7 + 5 * ps.length) K1.D := by rw [k1]; exact hB1.crash 0
      obtain ⟨j, j1, j2, o1, o2, o3, o4, o5, o6⟩ := open_plain s2 0 (64 + qb)
      rw [← k1] at o1 o2 o3 o4 o5 o6
      obtain rfl : j = P.length := by omega
      rw [List.take_length, s3, hA.pl, List.take_length] at o2
      rw [← k2]
      refine cOpen2 (K := K1) (size := (64 + qb)) [rs laidR, cl b4 #[.slice a ps.length c] 36, cl b8 #[.bool false] 4, cl bz #[.int .i64 ((64 + qa : Nat) : Int), .int .i64 ((64 + qb : Nat) : Int)] 3, ⟨d1, some (.deferred (some [])), false, none⟩] (fun w1 hs => (St.unst hs)) (by omega) (by omega) (by rw [k1]; rfl) hB2 (by omega) (by decide) (fun _ T2 hS2 hD2 hbd2 hok2 => ?_) (fun h => absurd o1 h)
      rw [o2] at hS2
      have hpl2 : T2.S.pl = ps := by rw [hS2]
      obtain ⟨va, vc, hva⟩ := sv_sl hok2.row
      refine dr [rs (stR T2), dead, cl b4 #[.slice a ps.length c] 36] 99 (.t 0 (.t 1 (.t 2 (.t 3 (.t 4 (.t 5 (.t 6 (.t 7 (.t 8 .nil))))))))) tab_ok mixed_ok (by kernel_rfl) (.cons (.dead (.cons .nil))) ?_
      iterate 2 refine ct rfl ?_
      refine czs (fun w1 hs => by have := stR_cl (hs.res (k := 0) rfl); rw [hva] at this; exact len_any this) ?_
      rw [show T2.S.pl.length = ps.length by rw [hpl2]]
      refine ct rfl ?_
      refine ld1 2 rfl rfl ?_
      iterate 2 refine ct rfl ?_
      refine cf rfl ?_
      refine cf (hxx _) ?_
      refine inl (C := ⟨Tryz.prog, tab, _, [], w, _⟩) tab_ok Tryz.func10 rfl Tryz.ntmps10 rfl ?_
      intro b1
      refine bk ?_
      refine CodeP.from (L' := [rs (stR T2), rs laidR, cl b4 #[.slice a ps.length c] 36, cl b8 #[.bool false] 4, cl bz #[.int .i64 ((64 + qa : Nat) : Int), .int .i64 ((64 + qb : Nat) : Int)] 3, ⟨d1, some (.deferred (some [])), false, none⟩, cl b1 #[ptr T2.bs] TPS, rs (rdR (rowB0 w) (.slice a ps.length c) vs), rs (psR (rowB0 w) vs ps)]) (fun w1 hs => hI.push hs) ?_
      refine rfiO (C := ⟨Tryz.prog, tab, 139, [], w, none⟩) (L0 := [rs (stR T2), rs laidR, cl b4 #[.slice a ps.length c] 36, cl b8 #[.bool false] 4, cl bz #[.int .i64 ((64 + qa : Nat) : Int), .int .i64 ((64 + qb : Nat) : Int)] 3, ⟨d1, some (.deferred (some [])), false, none⟩, cl b1 #[ptr T2.bs] TPS, rs (rdR (rowB0 w) (.slice a ps.length c) vs), rs (psR (rowB0 w) vs ps)]) (α := Unit) (β := Empty) tab_ok rfl rfl rfl
        (stall_itr b1 T2 hok2 (by rw [hpl2]; omega) (fun p hp => by rw [hpl2] at hp; have := h300 p hp; omega)) (fun _ _ => True) (fun _ _ => []) (fun y => y.elim) (fun y => y.elim) () trivial ?_
        (fun w' hs => ⟨⟨hs.nth (k := 6) rfl, hs.res (k := 0) rfl⟩, fun b hb e he => by cases he⟩) ?_ ?_ ?_ ?_
      · exact .refl _
      · rintro i args q j ⟨p, r, _, rfl, _⟩; rfl
      · rintro lq j args q j' _ w' ready busy ⟨p, r, hpj, rfl, rfl, hR, rfl⟩ _
        rw [hpl2] at hpj
        have hjl := (List.getElem?_eq_some_iff.1 hpj).1
        have hne : vs ≠ [] := fun e => by have := hI.pls.len; rw [e] at this; simp at this; omega
        obtain ⟨pb, po, rfl⟩ := hI.row.addr hne
        obtain ⟨pa, pc, hpv⟩ := hI.pls.at hpj
        refine ⟨rfl, ?_⟩
        refine ld1 2 rfl rfl ?_
        refine ⟨by omega, by omega, ?_⟩
        refine .mk (.slice pa p.length pc) (fun w2 hs => (St.resR hs (k := 7) (r := rdR (rowB0 w) (.slice (some ⟨pb, po, none⟩) ps.length c) vs) rfl).1.rd.at hpv rfl) ?_
        refine cvs (fun w2 hs => same_yes _ _ p w2 (Rd.own hs 9 rfl hR) ((St.resR hs (k := 8) (r := psR (rowB0 w) vs ps) rfl).1 j _ _ hpv hpj).rd) ?_
        refine cf rfl ?_
        exact ⟨(), trivial, (.drop (.drop (.drop (.drop (.drop (.drop (.drop (.drop (.drop (.drop (.cons .nil))))))))))), fun e he => by cases he⟩
      · rintro j y b0 _ _
        refine .as (2 : Int) (by decide) (by decide) (by decide) ?_
        exact ⟨(2, [b0, d1]), ⟨rfl, by show 2 ≤ 2; decide⟩, by show 2 - 2 < 2 - 1; decide, ⟨⟨rfl, rfl, rfl, rfl, rfl, rfl, trivial⟩, (.drop (.cons (.cons (.cons (.cons (.cons (.drop (.drop (.drop (.cons .nil)))))))))), rfl⟩⟩
      · intro y; exact y.elim
  | 2, [d1, d2], _, _ =>
    refine cf rfl ?_
    refine s1 2 rfl (by show 0 < 1; decide) ?_
    refine .mk 5 rfl ?_
    refine .mk 4 rfl ?_
    refine ld1 2 rfl rfl ?_
    exact rt rfl
end Go.Proofs.YteamnhpplclmfaaGreatDoor
end
section
namespace Go.Proofs.YteamnhpplclmfaaGreatDoor
open Go.RowKit Go.Sx
set_option linter.unusedVariables false
theorem open_fresh (s l : Nat) (a : Bool) (q size : Nat) : openP ⟨s, l, a, false, q, []⟩ size = ⟨⟨size, [], 0, 1, 0, 0⟩, ⟨s, l, a, false, q, []⟩, 0⟩ := by
  have h1 : dr1 ⟨s, l, a, false, q, []⟩ = (⟨s, l, a, false, q, []⟩, 0) := rfl
  have h2 : mfL (dr1 ⟨s, l, a, false, q, []⟩) = 1 := rfl
  have h3 : ldOf ⟨s, l, a, false, q, []⟩ = (⟨⟨s, l, a, false, q, []⟩, [], 0⟩, 0) := rfl
  have hs : sortT ((⟨s, l, a, false, q, []⟩ : Dk).files.map (·.name)) = [] := by first | rfl | exact List.mergeSort_nil | simp [sortT]
  unfold openP
  rw [h2, h3]
  dsimp only
  first | rw [hs] | (dsimp only at hs; rw [hs])
  rfl
/-- how the files of a disk stand behind what was appended -/
def Gs (all : List Bs) (sure : Nat) (m : Nat) (F : List Fe) : Prop := ∃ Ss P q r, Gd Ss P q F ∧ all = Ss.flatten ++ P ++ r ∧ sure ≤ cnt Ss q ∧ Ss.length ≤ m
/-- while a script goes -/
structure Hn (all : List Bs) (sure : Nat) (m : Nat) (S : Sr) (D : Dk) : Prop where
  st : ∃ Ss P q r, Gd Ss P q D.files ∧ all = Ss.flatten ++ P ++ r ∧ sure ≤ cnt Ss q ∧ Ss.length ≤ m ∧ (S.stuck = 0 → Al ⟨D, S.last, S.length⟩ Ss P q ∧ r = [] ∧ S.pl = all)
  la : S.last ≤ m + 1
  le : S.length ≤ 308 * m
  pl : S.pl.length ≤ m
theorem Hn.gs {all : List Bs} {sure m : Nat} {S : Sr} {D : Dk} (h : Hn all sure m S D) : Gs all sure m D.files := by
  obtain ⟨Ss, P, q, r, a, b, c, d, _⟩ := h.st
  exact ⟨Ss, P, q, r, a, b, c, d⟩
theorem Hn.zero (size : Nat) (D : Dk) (hD : D.files = []) : Hn [] 0 0 ⟨size, [], 0, 1, 0, 0⟩ D := by
  refine ⟨⟨[], [], 0, [], by rw [hD]; exact Gd.nil, rfl, Nat.zero_le _, Nat.le_refl _, fun _ => ⟨⟨by rw [hD]; exact Gd.nil, by rw [hD]; rfl, rfl, rfl⟩, rfl, rfl⟩⟩, Nat.le_refl _, Nat.le_refl _, Nat.le_refl _⟩
theorem Hn.stop {all : List Bs} {sure m m' : Nat} {S S' : Sr} {D D' : Dk} (h : Hn all sure m S D) (ps : List Bs) (hm : m ≤ m') (hs : S'.stuck ≠ 0) (h1 : S'.last = S.last) (h2 : S'.length = S.length) (h3 : S'.pl = S.pl) (hD : D'.files = D.files) : Hn (all ++ ps) sure m' S' D' := by
  obtain ⟨Ss, P, q, r, a, b, c, d, e⟩ := h.st
  refine ⟨⟨Ss, P, q, r ++ ps, by rw [hD]; exact a, by rw [b]; simp, c, by omega, fun h0 => absurd h0 hs⟩, by have := h.la; omega, by have := h.le; rw [h2]; omega, by have := h.pl; rw [h3]; omega⟩
theorem Hn.append {all : List Bs} {sure m : Nat} {S : Sr} {D : Dk} (h : Hn all sure m S D) (ps : List Bs) (hp : ∀ p ∈ ps, p.length ≤ 300) (hm : m + ps.length ≤ 10000) :
    Hn (all ++ ps) sure (m + ps.length) (appendS ⟨S, D⟩ ps).1.S (appendS ⟨S, D⟩ ps).1.D := by
  have hp6 : ∀ p ∈ ps, p.length ≤ 65536 := fun p hm => by have := hp p hm; omega
  have hbig : (ps.any fun p => decide (65536 < p.length)) = false := by
    rw [List.any_eq_false]; intro p hm; have := hp p hm; simp; omega
  unfold appendS
  by_cases hst : S.stuck ≠ 0
  · rw [if_pos hst]
    exact h.stop ps (Nat.le_add_right _ _) hst rfl rfl rfl rfl
  rw [if_neg hst, if_neg (by rw [hbig]; decide)]
  split
  · exact h.stop ps (Nat.le_add_right _ _) (show (3 : Nat) ≠ 0 by decide) rfl rfl rfl rfl
  split
  · exact h.stop ps (Nat.le_add_right _ _) (show (4 : Nat) ≠ 0 by decide) rfl rfl rfl rfl
  obtain ⟨Ss, P, q, r, a, b, c, d, e⟩ := h.st
  obtain ⟨al, er, epl⟩ := e (by simpa using hst)
  subst er
  rw [List.append_nil] at b
  obtain ⟨S2, P2, q2, k, g1, c1, l1, t1, al1⟩ := puts_plain (size := S.size) ps hp6 al (by omega)
  have hl := puts_len S.size 300 ps hp ⟨D, S.last, S.length⟩
  have hla := h.la
  have hle := h.le
  have hpl := h.pl
  dsimp only at hl g1
  split
  · rename_i a1
    obtain ⟨b1, b2⟩ := al1 a1
    refine ⟨⟨S2, P2, q2, [], g1, by rw [b2, b, List.append_nil], by omega, by omega, fun _ => ⟨b1, rfl, by show S.pl ++ ps = _; rw [epl]⟩⟩, ?_, ?_, ?_⟩
    · show (putsD S.size ⟨D, S.last, S.length⟩ ps).1.last ≤ _; omega
    · show (putsD S.size ⟨D, S.last, S.length⟩ ps).1.length ≤ _; omega
    · show (S.pl ++ ps).length ≤ _; rw [List.length_append]; omega
  · rename_i a1
    refine ⟨⟨S2, P2, q2, ps.drop k, g1, by rw [t1, b, List.append_assoc _ (ps.take k), List.take_append_drop], by omega, by omega, fun h0 => absurd h0 a1⟩, ?_, ?_, ?_⟩
    · show S.last ≤ _; omega
    · show S.length ≤ _; omega
    · show S.pl.length ≤ _; omega
theorem Hn.sync {all : List Bs} {sure m : Nat} {S : Sr} {D : Dk} (h : Hn all sure m S D) :
    Hn all sure m (syncS ⟨S, D⟩).1.S (syncS ⟨S, D⟩).1.D ∧ ((syncS ⟨S, D⟩).2 = 0 → Hn all all.length m (syncS ⟨S, D⟩).1.S (syncS ⟨S, D⟩).1.D) := by
  have stop : ∀ {S' : Sr} {D' : Dk}, S'.stuck ≠ 0 → S'.last = S.last → S'.length = S.length → S'.pl = S.pl → D'.files = D.files → Hn all sure m S' D' := fun a b c d e => by
    have := h.stop [] (Nat.le_refl m) a b c d e
    rwa [List.append_nil] at this
  unfold syncS
  by_cases hst : S.stuck ≠ 0
  · rw [if_pos hst]
    exact ⟨h, fun h0 => absurd h0 hst⟩
  rw [if_neg hst]
  split
  · exact ⟨stop (show (4 : Nat) ≠ 0 by decide) rfl rfl rfl rfl, fun h0 => absurd h0 (show ¬ (4 : Nat) = 0 by decide)⟩
  obtain ⟨Ss, P, q, r, a, b, c, d, e⟩ := h.st
  obtain ⟨al, er, epl⟩ := e (by simpa using hst)
  subst er
  rw [List.append_nil] at b
  have hla : S.last = Ss.length + 1 := al.la
  have hl1 := h.la
  have hl2 := h.le
  have hl3 := h.pl
  have hall : all.length = cnt Ss P.length := by rw [b]; unfold cnt; simp
  cases hh : hasD D (nameS S.last) with
  | false =>
    rw [if_neg (by decide)]
    have hP : P = [] ∧ q = 0 := by
      rcases a.las with ⟨e1, _⟩ | ⟨f, e1, _⟩
      · subst e1; exact ⟨rfl, by simpa using a.ql⟩
      · unfold hasD at hh; rw [hla, e1] at hh; cases hh
    obtain ⟨rfl, rfl⟩ := hP
    have key : ∀ s, s ≤ cnt Ss 0 → Hn all s m { S with sure := S.pl.length } D := fun s hs => ⟨⟨Ss, [], 0, [], a, by rw [b]; simp, hs, d, fun _ => ⟨al, rfl, epl⟩⟩, hl1, hl2, hl3⟩
    exact ⟨key _ c, fun _ => key _ (by rw [hall]; exact Nat.le_refl _)⟩
  | true =>
    rw [if_pos rfl]
    dsimp only
    have hnm : nameS S.last = nameS (Ss.length + 1) := by rw [hla]
    rw [hnm] at hh ⊢
    obtain ⟨f, hf⟩ := has_read hh
    have e1 := sync_eq hf
    rcases act_cases D (setF ⟨nameS (Ss.length + 1), f.bs, f.bs.length⟩ D.files) with ⟨c1, d1⟩ | ⟨c1, d1⟩
    · rw [← e1] at c1 d1
      rw [if_pos c1]
      have g1 : Gd Ss P P.length (syncD D (nameS (Ss.length + 1))).1.files := by rw [d1]; exact a.synced hf
      have nn : findF newB (syncD D (nameS (Ss.length + 1))).1.files = none := by rw [d1, find_set, if_neg (show ¬ newB = nameS (Ss.length + 1) from fun e => name_new _ e.symm)]; exact al.nn
      have key : ∀ s, s ≤ cnt Ss P.length → Hn all s m { S with sure := S.pl.length } (syncD D (nameS (Ss.length + 1))).1 := fun s hs => ⟨⟨Ss, P, P.length, [], g1, by rw [b, List.append_nil], hs, d, fun _ => ⟨⟨g1, nn, hla, al.le⟩, rfl, epl⟩⟩, hl1, hl2, hl3⟩
      have hql := a.ql
      exact ⟨key _ (Nat.le_trans c (by unfold cnt; omega)), fun _ => key _ (by rw [hall]; exact Nat.le_refl _)⟩
    · rw [← e1] at c1 d1
      rw [if_neg (by rw [c1]; decide)]
      refine ⟨stop (show (syncD D (nameS (Ss.length + 1))).2 ≠ 0 by rw [c1]; decide) rfl rfl rfl d1, fun h0 => ?_⟩
      rw [c1] at h0
      cases h0
/-- the power goes, and the disk is opened again -/
theorem Gs.reopen {all : List Bs} {sure m : Nat} {D : Dk} (h : Gs all sure m D.files) (keep : Int) (size : Nat) :
    ∃ n, sure ≤ n ∧ n ≤ all.length ∧ (openP (crashD D keep) size).code = 0 ∧ (openP (crashD D keep) size).S.pl = all.take n ∧ (openP (crashD D keep) size).S.sure = n ∧ (openP (crashD D keep) size).S.last ≤ m + 1 ∧ Gs (all.take n) n m (openP (crashD D keep) size).D.files := by
  obtain ⟨Ss, P, q, r, a, b, c, d⟩ := h
  obtain ⟨j, j1, j2, o1, o2, o3, o4, o5, o6⟩ := open_plain a keep size
  have hn : (Ss.flatten ++ P.take j).length = cnt Ss j := by unfold cnt; rw [List.length_append, List.length_take]; omega
  have ht : all.take (cnt Ss j) = Ss.flatten ++ P.take j := by
    have e : all = (Ss.flatten ++ P.take j) ++ (P.drop j ++ r) := by rw [b]; rw [List.append_assoc, List.append_assoc, ← List.append_assoc (P.take j), List.take_append_drop]
    rw [e, List.take_left' hn]
  refine ⟨cnt Ss j, Nat.le_trans c (by unfold cnt; omega), ?_, o1, by rw [o2, ht], by rw [o2, ← hn], by rw [o2]; show Ss.length + 1 ≤ _; omega, ⟨Ss, P.take j, j, [], o3, by rw [ht, List.append_nil], Nat.le_refl _, d⟩⟩
  rw [b]
  unfold cnt
  simp
  omega
end Go.Proofs.YteamnhpplclmfaaGreatDoor
end
section
namespace Go.Proofs.YteamnhpplclmfaaGreatDoor
open Go.RowKit Go.Sx
set_option linter.unusedVariables false
abbrev TOp8 : Nat := 65
abbrev TOps8 : Nat := 50
/-- an act -/
structure Op8 where
  kind : Int
  n : Int
  a : Option Addr
  c : Nat
  vs : List Value
  ps : List Bs
instance : Inhabited Op8 := ⟨⟨0, 0, none, 0, [], []⟩⟩
def Op8.cs (q : Op8) : Array Value := #[.int .i64 q.kind, .int .i64 q.n, .slice q.a q.ps.length q.c]
/-- an act that lies at a place -/
structure Act8 (w : World) (a : Option Addr) (i : Nat) (q : Op8) : Prop where
  at' : ∃ b o, a = some ⟨b, o, none⟩ ∧ b < w.heap.size ∧ ∀ j u, q.cs[j]? = some u → w.cell? ⟨b, o + i * 3 + j, none⟩ = some u
  hI : PayIn w q.a q.c q.vs q.ps
  pm : q.ps.length ≤ maxLen
/-- a script -/
def Scr8 (w : World) (v : Value) (n : Nat) (O : Nat → Op8) : Prop := n ≤ maxLen ∧ ∃ a c, v = .slice a n c ∧ ∀ i, i < n → Act8 w a i (O i)
theorem Act8.below {w w' : World} {a : Option Addr} {i : Nat} {q : Op8} (hb : Below w.heap.size w w') (h : Act8 w a i q) : Act8 w' a i q := by
  obtain ⟨⟨b, o, e, hl, hc⟩, h2, h3⟩ := h
  exact ⟨⟨b, o, e, Nat.lt_of_lt_of_le hl hb.size, fun j u hu => (hb.cell (p := ⟨b, o + i * 3 + j, none⟩) hl).trans (hc j u hu)⟩, ⟨h2.row.below hb, h2.pls, fun i v q hv hq => (h2.el i v q hv hq).below hb, h2.mx, h2.cap⟩, h3⟩
def Sm8 (O : Nat → Op8) (n : Nat) : Prop := n ≤ 41 ∧ ∀ i, i < n → (O i).ps.length ≤ 8 ∧ ∀ p ∈ (O i).ps, ¬ (300 < p.length ∧ p.length ≤ 65536)
set_option maxRecDepth 100000 in
set_option maxHeartbeats 4000000 in
theorem large8_any (v : Value) (n : Nat) (O : Nat → Op8) (b : Bool) (hb : b = true ↔ ¬ Sm8 O n) (w : World) (hS : Scr8 w v n O) : Calls Tryz.prog 25 ([v] : List Value).toArray w fun e w' => e = .returned (.bool b) ∧ Below w.heap.size w w' := by
  obtain ⟨hn, a, c, rfl, hS⟩ := hS
  have hmx : maxLen ≤ 9223372036854775807 := by decide
  refine enterV tab_ok Tryz.func25 rfl Tryz.ntmps25 rfl (St.start w) ?_
  refine lp tab_ok (fun i : Nat => i ≤ n ∧ Sm8 O i) (fun i => ⟨[(7, .slice a n c), (8, .int .i64 n), (9, .int .i64 i)], [], []⟩) (fun i => n - i) 0 ⟨Nat.zero_le _, Nat.zero_le _, fun i hi => by omega⟩ ⟨⟨rfl, rfl, rfl, trivial⟩, .nil, rfl⟩ ?_
  rintro i ⟨hi, hsm⟩
  refine cd (fun h => ?_) (fun h => ?_)
  · have hil : i < n := by omega
    have hact := hS i hil
    have hyes : ¬ Sm8 O n → b = true := fun h => hb.2 h
    obtain ⟨q, hq⟩ : ∃ q, q = O i := ⟨_, rfl⟩
    rw [← hq] at hact
    obtain ⟨⟨bo, off, rfl, hbl, hc⟩, hI, hpm⟩ := hact
    refine ⟨by omega, by omega, ?_⟩
    refine ldoN (d := #[.int .i64 q.kind, .int .i64 q.n, .slice q.a q.ps.length q.c]) (fun j u hu => by rw [nad_eq, nmu_eq, Int.toNat_natCast]; exact hc j u hu) hbl rfl ?_
    intro b4
    refine sN 0 rfl rfl rfl ?_ (by kernel_rfl)
    by_cases h40 : 40 < i
    · have e1 : decide ((i : Int) > 40) = true := decide_eq_true (by omega)
      have e2 : (decide ((i : Int) > 40) == false) = false := by rw [e1]; rfl
      iterate 4 refine cf e2 ?_
      refine ct e1 ?_
      refine ct rfl ?_
      exact rt (congrArg Value.bool (hyes fun h => by have := h.1; omega).symm)
    have e1 : decide ((i : Int) > 40) = false := decide_eq_false (by omega)
    have e2 : (decide ((i : Int) > 40) == false) = true := by rw [e1]; rfl
    iterate 2 refine ct e2 ?_
    refine ld1 0 rfl (v := .slice q.a q.ps.length q.c) rfl ?_
    iterate 2 refine ct e2 ?_
    refine cf e1 ?_
    by_cases h8 : 8 < q.ps.length
    · refine ct (decide_eq_true (by omega)) ?_
      exact rt (congrArg Value.bool (hyes fun h => by have := (h.2 i hil).1; rw [← hq] at this; omega).symm)
    refine cf (decide_eq_false (by omega)) ?_
    refine ld1 0 rfl (v := .slice q.a q.ps.length q.c) rfl ?_
    refine lp tab_ok (fun j : Nat => j ≤ q.ps.length ∧ ∀ k (hk : k < q.ps.length), k < j → ¬ (300 < q.ps[k].length ∧ q.ps[k].length ≤ 65536)) (fun j => ⟨[(7, .slice (some ⟨bo, off, none⟩) n c), (8, .int .i64 n), (9, .int .i64 i), (23, .slice q.a q.ps.length q.c), (24, .int .i64 q.ps.length), (25, .int .i64 j)], [], []⟩) (fun j => q.ps.length - j) 0 ⟨Nat.zero_le _, fun k hk h => by cases h⟩ ⟨⟨rfl, rfl, rfl, rfl, rfl, rfl, trivial⟩, .drop .nil, rfl⟩ ?_
    rintro j ⟨hj, hsj⟩
    refine cd (fun h => ?_) (fun h => ?_)
    · have hlt : j < q.ps.length := by omega
      have hne : q.vs ≠ [] := fun e => by have := hI.pls.len; rw [e] at this; simp at this; omega
      obtain ⟨pb, po, hqa⟩ := hI.row.addr hne
      obtain ⟨pa, pc, hpv⟩ := hI.pls.at (i := j) (p := q.ps[j]) (by simp [hlt])
      have hrow := hI.row
      rw [hqa] at hrow ⊢
      have hml := hI.mx _ (List.getElem_mem hlt)
      refine ⟨by omega, by omega, ?_⟩
      refine ldo (hrow.at hpv rfl) (hrow.lt0 hne) ?_
      have next : ¬ (300 < q.ps[j].length ∧ q.ps[j].length ≤ 65536) → ∀ k (hk : k < q.ps.length), k < j + 1 → ¬ (300 < q.ps[k].length ∧ q.ps[k].length ≤ 65536) := fun h0 k hk hkj => by
        by_cases e : k = j
        · subst e; exact h0
        · exact hsj k hk (by omega)
      by_cases h3 : 300 < q.ps[j].length
      · have e3 : decide ((q.ps[j].length : Int) > 300) = true := decide_eq_true (by omega)
        have e4 : (decide ((q.ps[j].length : Int) > 300) == true) = true := by rw [e3]; rfl
        iterate 3 refine ct e4 ?_
        refine ct e3 ?_
        by_cases h6 : q.ps[j].length ≤ 65536
        · refine ct (decide_eq_true (by omega)) ?_
          exact rt (congrArg Value.bool (hyes fun h => by have := (h.2 i hil).2 q.ps[j] (by rw [← hq]; exact List.getElem_mem hlt); omega).symm)
        · refine cf (decide_eq_false (by omega)) ?_
          refine .as ((j + 1 : Nat) : Int) (by omega) (by simp only [mn]; omega) (by simp only [mx]; omega) ?_
          exact ⟨j + 1, ⟨hlt, next (by omega)⟩, by omega, ⟨⟨rfl, rfl, rfl, rfl, rfl, rfl, trivial⟩, .nil, rfl⟩⟩
      · have e3 : decide ((q.ps[j].length : Int) > 300) = false := decide_eq_false (by omega)
        have e4 : (decide ((q.ps[j].length : Int) > 300) == true) = false := by rw [e3]; rfl
        iterate 3 refine cf e4 ?_
        refine cf e3 ?_
        refine cf rfl ?_
        refine .as ((j + 1 : Nat) : Int) (by omega) (by simp only [mn]; omega) (by simp only [mx]; omega) ?_
        exact ⟨j + 1, ⟨hlt, next (by omega)⟩, by omega, ⟨⟨rfl, rfl, rfl, rfl, rfl, rfl, trivial⟩, .nil, rfl⟩⟩
    · obtain rfl : j = q.ps.length := by omega
      refine .as ((i + 1 : Nat) : Int) (by omega) (by simp only [mn]; omega) (by simp only [mx]; omega) ?_
      refine ⟨i + 1, ⟨hil, by omega, fun k hk => ?_⟩, by omega, ⟨⟨rfl, rfl, rfl, trivial⟩, .nil, rfl⟩⟩
      by_cases e : k = i
      · subst e
        rw [← hq]
        refine ⟨by omega, fun p hp => ?_⟩
        obtain ⟨k, hk, rfl⟩ := List.getElem_of_mem hp
        exact hsj k hk hk
      · exact hsm.2 k (by omega)
  · obtain rfl : i = n := by omega
    have hbf : b = false := by cases b with | false => rfl | true => exact absurd hsm (hb.1 rfl)
    exact rt (congrArg Value.bool hbf.symm)
end Go.Proofs.YteamnhpplclmfaaGreatDoor
end
section
namespace Go.Proofs.YteamnhpplclmfaaGreatDoor
open Go.RowKit Go.Sx
set_option linter.unusedVariables false
abbrev TBBv : Nat := 36
theorem bsS0 (w : World) : (Instr.buildSlice 36 0 #[]).run Tryz.prog w = .ok (.slice (some ⟨w.heap.size, 0, none⟩) 0 0) (w.alloc (.cells #[] 22)) := by
  obtain ⟨i, hi, hz, hs, hb⟩ := infoOf infoS
  simp [Instr.buildSlice, run_underlying undSS, sizeOf, typeInfo, hi, newRow, Instr.fill]
  rw [show (Array.map (fun (_ : Nat) => (default : Value)) (Array.range 0)) = #[] from Array.eq_empty_of_size_eq_zero (by simp)]
/-- the payloads that the law keeps -/
structure Kp (w : World) (xs : List Value) (all : List Bs) : Prop where
  pls : Pls xs all
  el : ∀ (i : Nat) v p, xs[i]? = some v → all[i]? = some p → Rd w v (Lib.byteCells p)
  mx : ∀ p ∈ all, p.length ≤ 300
theorem Kp.nil (w : World) : Kp w [] [] := ⟨⟨rfl, fun i v p hv => by simp at hv⟩, fun i v p hv => by simp at hv, fun p hp => by simp at hp⟩
theorem Kp.app {w : World} {xs vs : List Value} {all ps : List Bs} {a : Option Addr} {c : Nat} (h : Kp w xs all) (hI : PayIn w a c vs ps) (hp : ∀ p ∈ ps, p.length ≤ 300) : Kp w (xs ++ vs) (all ++ ps) := by
  have hl := h.pls.len
  have hl2 := hI.pls.len
  have key : ∀ (i : Nat) v p, (xs ++ vs)[i]? = some v → (all ++ ps)[i]? = some p → (xs[i]? = some v ∧ all[i]? = some p) ∨ (vs[i - xs.length]? = some v ∧ ps[i - xs.length]? = some p) := fun i v p hv hp => by
    by_cases hi : i < xs.length
    · rw [List.getElem?_append_left hi] at hv
      rw [List.getElem?_append_left (by omega)] at hp
      exact .inl ⟨hv, hp⟩
    · rw [List.getElem?_append_right (by omega)] at hv
      rw [List.getElem?_append_right (by omega), ← hl] at hp
      exact .inr ⟨hv, hp⟩
  refine ⟨⟨by rw [List.length_append, List.length_append, hl, hl2], fun i v p hv hq => ?_⟩, fun i v p hv hq => ?_, fun p hq => ?_⟩
  · rcases key i v p hv hq with ⟨h1, h2⟩ | ⟨h1, h2⟩
    · exact h.pls.sh i v p h1 h2
    · exact hI.pls.sh _ v p h1 h2
  · rcases key i v p hv hq with ⟨h1, h2⟩ | ⟨h1, h2⟩
    · exact h.el i v p h1 h2
    · exact hI.el _ v p h1 h2
  · rcases List.mem_append.1 hq with h1 | h1
    · exact h.mx p h1
    · exact hp p h1
theorem PayIn.src {B w : World} {L : List Ent} (hs : St [] B w L) {a : Option Addr} {c : Nat} {vs : List Value} {ps : List Bs} (h : PayIn B a c vs ps) : Src Tryz.prog 1 36 (.slice a ps.length c) ps.length vs w := by
  have := (Rd.below h.row hs.below).src (P := Tryz.prog) (tx := 36) (e' := 22) undSS (fun u hu => ?_)
  · rw [h.pls.len] at this; exact this
  · obtain ⟨i, hi, rfl⟩ := List.getElem_of_mem hu
    obtain ⟨a', c', e⟩ := h.pls.sh i vs[i] (ps[i]'(by have := h.pls.len; omega)) (by simp [hi]) (by simp)
    rw [e]; rfl
/-- how it stands while the script goes -/
structure Hy where
  T : StS
  all : List Bs
  xs : List Value
  r : Sx.Own
  sure : Nat
  b8 : Nat
  b12 : Nat
def hyL (y : Hy) : List Ent := [rs (stR y.T), rs laidR, cl y.b8 #[.bool false] 4, se y.r y.xs TB, cl y.b12 #[sv y.r y.all.length] TBBv]
def hyF (size : Nat) (keep : Int) (y : Hy) : Sy := ⟨[(0, .int .i64 size), (3, .int .i64 keep), (8, ptr y.b8), (9, ptr y.T.k.bd), (12, ptr y.b12), (13, .int .i64 y.sure)], hyL y, []⟩
structure HyOk (w : World) (i : Nat) (y : Hy) : Prop where
  ok : StOk y.T
  hn : Hn y.all y.sure y.all.length y.T.S y.T.k.D
  kp : Kp w y.xs y.all
  row : Rw 1 y.all.length y.r y.xs
  bd : Bd 1048576 (6 + 41 * i) y.T.k.D
  le : y.all.length ≤ 8 * i
noncomputable abbrev HolC (w : World) : Cx := ⟨Tryz.prog, tab, 151, [], w, none⟩
noncomputable abbrev HolK (w : World) : Exit → Sy → Prop := retK (HolC w) Tryz.f24 (fun v w' => v = .bool true ∧ Below w.heap.size w w')
noncomputable abbrev HolB : Code := (Tryz.f24.body).getD .skip
set_option maxRecDepth 100000 in
set_option maxHeartbeats 4000000 in
/-- up to the end of the script -/
theorem holds_script (z : Int) (hz : -9223372036854775808 ≤ z ∧ z ≤ 9223372036854775807) (v : Value) (n : Nat) (O : Nat → Op8) (arm keep : Int) (ha : -9223372036854775808 ≤ arm ∧ arm ≤ 9223372036854775807) (w : World) (hS : Scr8 w v n O) (hw : Laid w)
    (fin : ∀ (size : Nat) (y : Hy), 64 ≤ size → size ≤ 2000 → HyOk w 41 y → CodeP (HolC w) (dropS 9 HolB) (HolK w) (hyF size keep y)) :
    Calls Tryz.prog 24 ([.int .i64 z, v, .int .i64 arm, .int .i64 keep] : List Value).toArray w fun e w' => e = .returned (.bool true) ∧ Below w.heap.size w w' := by
  have hS0 := hS
  obtain ⟨hn, a, c, rfl, hS⟩ := hS
  obtain ⟨b, hb⟩ : ∃ b : Bool, b = true ↔ ¬ Sm8 O n := by
    by_cases h : Sm8 O n
    · exact ⟨false, by simp [h]⟩
    · exact ⟨true, by simp [h]⟩
  refine (enterP (c := HolB) tab_ok Tryz.func24 rfl Tryz.ntmps24 rfl (St.laid hw) (R := fun v w' => v = .bool true ∧ Below w.heap.size w w') ?_).mono (fun e w' ⟨u, he, h1, h2⟩ => ⟨by rw [he, h1], h2⟩)
  refine cutS tab_ok (fun y : Nat × Hy => 64 ≤ y.1 ∧ y.1 ≤ 2000 ∧ HyOk w 41 y.2) (fun y => hyF y.1 keep y.2) 9 ?_ (fun y hy => fin y.1 y.2 hy.1 hy.2.1 hy.2.2)
  intro b8
  refine cvs (fun w1 hs => alive_any w1 (hs.res (k := 0) rfl)) ?_
  refine cf rfl ?_
  refine cvs (fun w1 hs => large8_any _ n O b hb w1 ⟨hn, a, c, rfl, fun i hi => (hS i hi).below hs.below⟩) ?_
  cases b with
  | true =>
    repeat (first | refine cf rfl ?_ | refine ct rfl ?_)
    refine s1 1 rfl (by show 0 < 1; decide) ?_
    refine ld1 1 rfl rfl ?_
    exact rt rfl
  | false =>
  have hsm : Sm8 O n := by
    by_cases h : Sm8 O n
    · exact h
    · exact absurd (hb.2 h) (by decide)
  by_cases h64 : z < 64
  · have e1 : decide (z < 64) = true := decide_eq_true h64
    have e2 : (decide (z < 64) == false) = false := by rw [e1]; rfl
    repeat (first | refine cf rfl ?_ | refine ct rfl ?_ | refine ct e1 ?_ | refine cf e2 ?_)
    refine s1 1 rfl (by show 0 < 1; decide) ?_
    refine ld1 1 rfl rfl ?_
    exact rt rfl
  have e1 : decide (z < 64) = false := decide_eq_false h64
  have e2 : (decide (z < 64) == false) = true := by rw [e1]; rfl
  by_cases h20 : z > 2000
  · have e3 : decide (z > 2000) = true := decide_eq_true h20
    have e4 : (decide (z > 2000) == false) = false := by rw [e3]; rfl
    repeat (first | refine cf rfl ?_ | refine ct rfl ?_ | refine cf e1 ?_ | refine ct e2 ?_ | refine ct e3 ?_ | refine cf e4 ?_)
    refine s1 1 rfl (by show 0 < 1; decide) ?_
    refine ld1 1 rfl rfl ?_
    exact rt rfl
  have e3 : decide (z > 2000) = false := decide_eq_false h20
  have e4 : (decide (z > 2000) == false) = true := by rw [e3]; rfl
  by_cases ha0 : arm < 0
  · have e5 : decide (arm < 0) = true := decide_eq_true ha0
    repeat (first | refine cf rfl ?_ | refine ct rfl ?_ | refine cf e1 ?_ | refine ct e2 ?_ | refine cf e3 ?_ | refine ct e4 ?_ | refine ct e5 ?_)
    refine s1 1 rfl (by show 0 < 1; decide) ?_
    refine ld1 1 rfl rfl ?_
    exact rt rfl
  have e5 : decide (arm < 0) = false := decide_eq_false ha0
  repeat (first | refine cf rfl ?_ | refine ct rfl ?_ | refine cf e1 ?_ | refine ct e2 ?_ | refine cf e3 ?_ | refine ct e4 ?_ | refine cf e5 ?_)
  obtain ⟨size, rfl⟩ : ∃ q : Nat, z = q := ⟨z.toNat, by omega⟩
  obtain ⟨an, rfl⟩ : ∃ q : Nat, arm = q := ⟨arm.toNat, by omega⟩
  refine cM (α := Nat × Nat) (Φ := fun _ => True) (v := fun x => .tuple #[ptr x.1, .nilIface]) (r' := fun x => dkR (dk0 1048576 x.1 x.2)) (fun w1 hs => (new_any 1048576 (by decide) w1).mono fun e w' ⟨x, h1, h2, h3, h4, h5, h6⟩ => ⟨x, h1, h2, h3, h4, h5, fun k hk => (h6 k hk).elim⟩) (fun x _ => ?_)
  repeat (first | refine cf rfl ?_ | refine ct rfl ?_)
  refine cT (α := Unit) (Φ := fun _ => True) (v := fun _ => .nilIface) (r' := fun _ => dkR ((dk0 1048576 x.1 x.2).withD ⟨0, an, true, false, 1048576, []⟩)) 2 rfl (fun w1 hs => (arm_any (dk0 1048576 x.1 x.2) an w1 (hs.res (k := 2) rfl)).mono fun e w' ⟨h1, h2⟩ => ⟨(), trivial, h1, h2⟩) (fun _ _ => ?_)
  repeat (first | refine cf rfl ?_ | refine ct rfl ?_)
  have ez := open_fresh 0 an true 1048576 size
  have hb0 : Bd 1048576 0 (⟨0, an, true, false, 1048576, []⟩ : Dk) := (Bd.zero 1048576).arm an (by omega)
  refine cOpen2 (K := (dk0 1048576 x.1 x.2).withD ⟨0, an, true, false, 1048576, []⟩) (size := size) [rs laidR, cl b8 #[.bool false] 4] (fun w1 hs => ?_) (by omega) (by omega) rfl hb0 (by decide) (by decide) (fun _ T0 hS0 hD0 hbd0 hok0 => ?_) (fun h => absurd (by show (openP ⟨0, an, true, false, 1048576, []⟩ size).code = 0; rw [ez]) h)
  · exact (St.dupL hs 0 rfl).perm (List.perm_append_comm (l₁ := [rs (dkR ((dk0 1048576 x.1 x.2).withD ⟨0, an, true, false, 1048576, []⟩))]) (l₂ := [rs laidR, rs laidR, cl b8 #[.bool false] 4]))
  have hS1 : T0.S = ⟨size, [], 0, 1, 0, 0⟩ := by rw [hS0]; show (openP ⟨0, an, true, false, 1048576, []⟩ size).S = _; rw [ez]
  have hD1 : T0.k.D = ⟨0, an, true, false, 1048576, []⟩ := by rw [hD0]; show (openP ⟨0, an, true, false, 1048576, []⟩ size).D = _; rw [ez]
  refine cf rfl ?_
  refine .mk _ _ bsS0 (fun bz => ?_)
  intro b12
  refine s1 4 rfl (by show 0 < 1; decide) ?_
  refine lp tab_ok (fun y : Nat × Hy => y.1 ≤ n ∧ HyOk w y.1 y.2 ∧ y.2.T.bs = T0.bs ∧ y.2.T.k.bd = x.1 ∧ y.2.b8 = b8 ∧ y.2.b12 = b12)
    (fun y => ⟨[(0, .int .i64 size), (3, .int .i64 keep), (8, ptr b8), (9, ptr x.1), (11, ptr T0.bs), (12, ptr b12), (13, .int .i64 y.2.sure), (61, .slice a n c), (62, .int .i64 n), (63, .int .i64 y.1)], hyL y.2, []⟩) (fun y => n - y.1)
    (0, ⟨T0, [], [], some (bz, 0, []), 0, b8, b12⟩) ⟨Nat.zero_le _, ⟨hok0, by rw [hS1, hD1]; exact Hn.zero size _ rfl, Kp.nil w, ⟨rfl, Nat.le_refl _, Nat.zero_le _, rfl⟩, by rw [hD1]; exact hb0.le (by omega), Nat.le_refl _⟩, rfl, hbd0, rfl, rfl⟩ ⟨⟨rfl, rfl, rfl, rfl, rfl, rfl, rfl, rfl, rfl, rfl, trivial⟩, Sub.refl _, rfl⟩ ?_
  rintro ⟨i, T, all, xs, r, sure, b8', b12'⟩ ⟨hi, hy, hbs, hbd, e8, e12⟩
  dsimp only at hi hbs hbd e8 e12 ⊢
  subst e8 e12
  obtain ⟨hok, hn, hk, hrow, hB, hal⟩ := hy
  dsimp only at hok hn hk hrow hB hal
  have hpl := hn.pl
  have hla := hn.la
  have hle := hn.le
  have hn41 := hsm.1
  refine cd (fun h => ?_) (fun h => ?_)
  · have hil : i < n := by omega
    have hact := hS i hil
    have hps8 := (hsm.2 i hil).1
    obtain ⟨q, hq⟩ : ∃ q, q = O i := ⟨_, rfl⟩
    rw [← hq] at hact hps8
    obtain ⟨⟨bo, off, rfl, hbl, hc⟩, hI, hpm⟩ := hact
    have hmx : maxLen ≤ 9223372036854775807 := by decide
    refine ⟨by omega, by omega, ?_⟩
    refine ldoN (d := #[.int .i64 q.kind, .int .i64 q.n, .slice q.a q.ps.length q.c]) (fun j u hu => by rw [nad_eq, nmu_eq, Int.toNat_natCast]; exact hc j u hu) hbl rfl ?_
    intro b15
    refine sN 5 rfl rfl rfl ?_ (by kernel_rfl)
    refine ld1 5 rfl (v := .int .i64 q.kind) rfl ?_
    by_cases hk1 : q.kind = 1
    · refine ct (decide_eq_true hk1) ?_
      refine ld1 5 rfl (v := .slice q.a q.ps.length q.c) rfl ?_
      refine lp tab_ok (fun j : Nat => j ≤ q.ps.length ∧ ∀ k (hk : k < q.ps.length), k < j → q.ps[k].length ≤ 300) (fun j => ⟨[(0, .int .i64 size), (3, .int .i64 keep), (8, ptr b8'), (9, ptr x.1), (11, ptr T0.bs), (12, ptr b12'), (13, .int .i64 sure), (61, .slice (some ⟨bo, off, none⟩) n c), (62, .int .i64 n), (63, .int .i64 i), (15, ptr b15), (71, .slice q.a q.ps.length q.c), (72, .int .i64 q.ps.length), (73, .int .i64 j)], [rs (stR T), rs laidR, cl b8' #[.bool false] 4, se r xs TB, cl b12' #[sv r all.length] TBBv, cl b15 #[.int .i64 q.kind, .int .i64 q.n, .slice q.a q.ps.length q.c] TOp8], []⟩) (fun j => q.ps.length - j) 0 ⟨Nat.zero_le _, fun k hk h => by cases h⟩ ⟨⟨rfl, rfl, rfl, rfl, rfl, rfl, rfl, rfl, rfl, rfl, rfl, rfl, rfl, rfl, trivial⟩, Sub.refl _, rfl⟩ ?_
      rintro j ⟨hj, hsj⟩
      refine cd (fun h => ?_) (fun h => ?_)
      · have hlt : j < q.ps.length := by omega
        have hne : q.vs ≠ [] := fun e => by have := hI.pls.len; rw [e] at this; simp at this; omega
        obtain ⟨pb, po, hqa⟩ := hI.row.addr hne
        obtain ⟨pa, pc, hpv⟩ := hI.pls.at (i := j) (p := q.ps[j]) (by simp [hlt])
        have hrowq := hI.row
        rw [hqa] at hrowq ⊢
        refine ⟨by omega, by omega, ?_⟩
        refine ldo (hrowq.at hpv rfl) (hrowq.lt0 hne) ?_
        by_cases h3 : 300 < q.ps[j].length
        · refine ct (decide_eq_true (by omega)) ?_
          refine s1 2 rfl (by show 0 < 1; decide) ?_
          refine ld1 2 rfl rfl ?_
          exact rt rfl
        · refine cf (decide_eq_false (by omega)) ?_
          refine .as ((j + 1 : Nat) : Int) (by omega) (by simp only [mn]; omega) (by simp only [mx]; omega) ?_
          refine ⟨j + 1, ⟨hlt, fun k hk hkj => ?_⟩, by omega, ⟨⟨rfl, rfl, rfl, rfl, rfl, rfl, rfl, rfl, rfl, rfl, rfl, rfl, rfl, rfl, trivial⟩, Sub.refl _, rfl⟩⟩
          by_cases e : k = j
          · subst e; omega
          · exact hsj k hk (by omega)
      · obtain rfl : j = q.ps.length := by omega
        have h300 : ∀ p ∈ q.ps, p.length ≤ 300 := fun p hp => by
          obtain ⟨k, hk, rfl⟩ := List.getElem_of_mem hp
          exact hsj k hk hk
        refine ld1 5 rfl (v := .slice q.a q.ps.length q.c) rfl ?_
        rw [← hbs]
        refine cTs 0 (x := (appendS ⟨T.S, T.k.D⟩ q.ps).1) (code := (appendS ⟨T.S, T.k.D⟩ q.ps).2) rfl (fun w1 hs => ?_) (fun T' e1 e2 e3 e4 e5 => ?_)
        · exact appS_any T hok _ q.a q.c q.vs q.ps hI.pls (by omega) hI.mx (by omega) (by omega) (by omega) hB (by omega) (by decide) w1 (hs.res (k := 0) rfl) (arg_in hs 0 rfl hI)
        have hn' : Hn (all ++ q.ps) sure (all ++ q.ps).length T'.S T'.k.D := by
          rw [List.length_append, e1, e2]
          exact hn.append q.ps h300 (by omega)
        have hB' : Bd 1048576 (6 + 41 * (i + 1)) T'.k.D := by rw [e2]; exact (Bd.appS (x := ⟨T.S, T.k.D⟩) hB q.ps).le (by omega)
        refine ld1 4 rfl rfl ?_
        refine ld1 5 rfl (v := .slice q.a q.ps.length q.c) rfl ?_
        refine ap (k := 3) (news := q.vs) (m := q.ps.length) (r := r) (xs := xs) (n := all.length) tab_ok rfl infoS rfl rfl hrow (fun w1 hs => hI.src hs) (by omega) (by unfold maxLen; omega) (fun r' hr' => ?_)
        rw [← List.length_append] at hr' ⊢
        refine s1 4 rfl (by show 0 < 1; decide) ?_ (h1 := by cases r' <;> rfl) (hv := by cases r' <;> rfl)
        rw [← e3]
        refine cvs (fun w1 hs => stuck_any (stR_cl (hs.res (k := 0) rfl))) ?_
        have hy' : HyOk w (i + 1) ⟨T', all ++ q.ps, xs ++ q.vs, r', sure, b8', b12'⟩ := ⟨e5, hn', hk.app hI h300, hr', hB', by dsimp only; rw [List.length_append]; omega⟩
        by_cases hst : T'.S.stuck = 0
        · rw [hst]
          refine cf rfl ?_
          refine .as ((i + 1 : Nat) : Int) (by omega) (by simp only [mn]; omega) (by simp only [mx]; omega) ?_
          exact ⟨(i + 1, ⟨T', all ++ q.ps, xs ++ q.vs, r', sure, b8', b12'⟩), ⟨hil, hy', rfl, e4.trans hbd, rfl, rfl⟩, by dsimp only; omega, ⟨⟨rfl, rfl, rfl, rfl, rfl, rfl, rfl, rfl, rfl, rfl, trivial⟩, .cons (.cons (.cons (.cons (.cons (.drop .nil))))), rfl⟩⟩
        · rw [errVs _ hst]
          refine ct rfl ?_
          rw [← hbd, ← e4]
          exact ⟨(size, ⟨T', all ++ q.ps, xs ++ q.vs, r', sure, b8', b12'⟩), ⟨by dsimp only; omega, by dsimp only; omega, ⟨hy'.ok, hy'.hn, hy'.kp, hy'.row, hy'.bd.le (by omega), by have h1 : (all ++ q.ps).length ≤ 8 * (i + 1) := hy'.le; show (all ++ q.ps).length ≤ 8 * 41; omega⟩⟩, ⟨⟨rfl, rfl, rfl, rfl, rfl, rfl, trivial⟩, .cons (.cons (.cons (.cons (.cons (.drop .nil))))), rfl⟩⟩
    · refine cf (decide_eq_false hk1) ?_
      rw [← hbs]
      refine cTs 0 (x := (syncS ⟨T.S, T.k.D⟩).1) (code := (syncS ⟨T.S, T.k.D⟩).2) rfl (fun w1 hs => syncS_any T hok (by omega) hB (by omega) w1 (hs.res (k := 0) rfl)) (fun T' e1 e2 e3 e4 e5 => ?_)
      have hsy := hn.sync
      rw [← e1, ← e2] at hsy
      have hB' : Bd 1048576 (6 + 41 * (i + 1)) T'.k.D := by rw [e2]; exact (Bd.syncS (x := ⟨T.S, T.k.D⟩) hB).le (by omega)
      by_cases hcd : (syncS ⟨T.S, T.k.D⟩).2 = 0
      · rw [hcd]
        refine ct rfl ?_
        obtain ⟨va, vc, hva⟩ := sv_sl hrow
        refine ld1 4 rfl (v := .slice va all.length vc) (by rw [← hva]; rfl) ?_
        refine .as ((i + 1 : Nat) : Int) (by omega) (by simp only [mn]; omega) (by simp only [mx]; omega) ?_
        exact ⟨(i + 1, ⟨T', all, xs, r, all.length, b8', b12'⟩), ⟨hil, ⟨e5, hsy.2 hcd, hk, hrow, hB', by dsimp only; omega⟩, e3, e4.trans hbd, rfl, rfl⟩, by dsimp only; omega, ⟨⟨rfl, rfl, rfl, rfl, rfl, rfl, rfl, rfl, rfl, rfl, trivial⟩, .cons (.cons (.cons (.cons (.cons (.drop .nil))))), rfl⟩⟩
      · rw [errVs _ hcd]
        refine cf rfl ?_
        refine .as ((i + 1 : Nat) : Int) (by omega) (by simp only [mn]; omega) (by simp only [mx]; omega) ?_
        exact ⟨(i + 1, ⟨T', all, xs, r, sure, b8', b12'⟩), ⟨hil, ⟨e5, hsy.1, hk, hrow, hB', by dsimp only; omega⟩, e3, e4.trans hbd, rfl, rfl⟩, by dsimp only; omega, ⟨⟨rfl, rfl, rfl, rfl, rfl, rfl, rfl, rfl, rfl, rfl, trivial⟩, .cons (.cons (.cons (.cons (.cons (.drop .nil))))), rfl⟩⟩
  · rw [← hbd]
    exact ⟨(size, ⟨T, all, xs, r, sure, b8', b12'⟩), ⟨by dsimp only; omega, by dsimp only; omega, ⟨hok, hn, hk, hrow, hB.le (by omega), by dsimp only; omega⟩⟩, ⟨⟨rfl, rfl, rfl, rfl, rfl, rfl, trivial⟩, Sub.refl _, rfl⟩⟩
end Go.Proofs.YteamnhpplclmfaaGreatDoor
end
section
namespace Go.Proofs.YteamnhpplclmfaaGreatDoor
open Go.RowKit Go.Sx
set_option linter.unusedVariables false
theorem Kp.push {B w : World} {L : List Ent} (hs : St [] B w L) {xs : List Value} {all : List Bs} (h : Kp B xs all) : St [] B w (L ++ [rs (psR (rowB0 B) xs all)]) := by
  have key : ∀ {v : Value} {ys : List Value}, Rd B v ys → RdB (rowB0 B) w v ys := fun {v ys} hp => rdb_of (hp.below hs.below) fun b o n c h hne => by rw [h] at hp; exact hp.lt0 hne
  exact St.pushB hs (e := rs (psR (rowB0 B) xs all)) ((rsOk _ _).2 ⟨fun i v q hv hq => key (h.el i v q hv hq), fun k hk => Nat.lt_of_lt_of_le hk hs.size⟩) (fun k hk => ((rsW _ _).1 hk).elim) (fun k hk => ((rsA _ _).1 hk).elim False.elim id)
theorem own_cell {r : Sx.Own} {xs : List Value} {n : Nat} (h : Rw 1 n r xs) {va : Option Addr} {vc : Nat} (hva : sv r n = .slice va n vc) : ∀ (j : Nat) (u : Value), xs[j]? = some u → ∃ b : Nat, va = some ⟨b, 0, none⟩ ∧ ∃ c : Array Value, se r xs TB = cl b c TB ∧ c[j]? = some u := by
  intro j u hu
  cases r with
  | none =>
    have h0 : n = 0 := h.2
    have h1 := h.1
    rw [h0] at h1
    have hx : xs = [] := List.eq_nil_of_length_eq_zero (by simpa using h1)
    rw [hx] at hu
    simp at hu
  | some p =>
    obtain ⟨b, cap, jj⟩ := p
    injection hva with h1 _ _
    refine ⟨b, h1.symm, _, rfl, ?_⟩
    have hj := (List.getElem?_eq_some_iff.1 hu).1
    rw [List.getElem?_toArray, List.getElem?_append_left hj]
    exact hu
set_option maxRecDepth 100000 in
set_option maxHeartbeats 4000000 in
theorem holds_end (size : Nat) (keep : Int) (hkeep : -9223372036854775808 ≤ keep ∧ keep ≤ 9223372036854775807) (w : World) (y : Hy) (h64 : 64 ≤ size) (h20 : size ≤ 2000) (hy : HyOk w 41 y) : CodeP (HolC w) (dropS 9 HolB) (HolK w) (hyF size keep y) := by
  obtain ⟨T, all, xs, r, sure, b8, b12⟩ := y
  obtain ⟨hok, hn, hk, hrow, hB, hal⟩ := hy
  dsimp only at hok hn hk hrow hB hal
  have hxx : ∀ z : Int, (z != z) = false := fun z => bne_self_eq_false z
  have hyy : ∀ z : Int, ((z != z) == false) = true := fun z => by rw [hxx]; rfl
  obtain ⟨va, vc, hva, hvn, hsp, _⟩ := sv_full hrow
  have hcell := own_cell hrow hva
  have hG := hn.gs
  obtain ⟨m, hm⟩ : ∃ m, m = all.length := ⟨_, rfl⟩
  rw [show Gs all sure all.length T.k.D.files = Gs all sure m T.k.D.files by rw [hm]] at hG
  refine cx_ok tab_ok _ _ _ ?_
  refine cCrash (keep := keep) rfl 0 hkeep rfl (fun K0 k1 k2 => ?_)
  refine lp tab_ok (fun y : (Nat × List Nat) × StS × Nat × Nat => y.1.2.length = y.1.1 ∧ y.1.1 ≤ 2 ∧ y.2.1.k.bd = T.k.bd ∧ y.2.2.1 ≤ all.length ∧ ∃ D kp, y.2.1.k.D = crashD D kp ∧ Gs (all.take y.2.2.1) y.2.2.2 m D.files ∧ Bd 1048576 (2000 * 3 ^ y.1.1) D)
    (fun y => ⟨[(0, .int .i64 size), (8, ptr b8), (9, ptr T.k.bd), (12, ptr b12), (13, .int .i64 y.2.2.2), (101, .int .i64 y.1.1)], [rs (stR y.2.1), rs laidR, cl b8 #[.bool false] 4, se r xs TB, cl b12 #[.slice va y.2.2.1 vc] TBBv] ++ y.1.2.reverse.map (fun b => ⟨b, some (.deferred (some [])), false, none⟩), y.1.2.map fun b => { target := .collected b, args := #[] }⟩) (fun y => 2 - y.1.1)
    ((0, []), { T with k := K0 }, all.length, sure) ⟨rfl, by show 0 ≤ 2; decide, k2, Nat.le_refl _, T.k.D, keep, k1, by dsimp only; rw [List.take_length]; exact hG, hB.le (by show 6 + 41 * 41 ≤ 2000 * 3 ^ 0; decide)⟩ ⟨⟨rfl, rfl, rfl, rfl, rfl, rfl, trivial⟩, by dsimp only [hyL]; rw [hva]; exact Sub.refl _, rfl⟩ ?_
  rintro ⟨⟨i, ds⟩, T1, n, s⟩ ⟨hds, hi2, hbd, hna, D0, kp, hK, hG1, hB1⟩
  dsimp only at hds hi2 hbd hna hK hG1 hB1 ⊢
  obtain ⟨n', g1, g2, o1, o2, o3, o4, o5⟩ := hG1.reopen kp size
  rw [← hK] at o1 o2 o3 o4 o5
  rw [List.length_take] at g2
  have hBk : Bd 1048576 (2000 * 3 ^ i) T1.k.D := by rw [hK]; exact hB1.crash kp
  have q1 : decide ((n' : Int) < (s : Int)) = false := decide_eq_false (by omega)
  have q2 : (decide ((n' : Int) < (s : Int)) == false) = true := by rw [q1]; rfl
  have q3 : decide ((n' : Int) > (n : Int)) = false := decide_eq_false (by omega)
  have q4 : (decide ((n' : Int) > (n : Int)) == false) = true := by rw [q3]; rfl
  clear hok hn hB hm hG k1 k2
  revert hbd
  generalize T.k.bd = bd
  intro hbd
  match i, ds, hds, hi2, hBk with
  | 0, [], _, _, hBk =>
    refine ct rfl ?_
    rw [← hbd]
    refine cOpen2 (K := T1.k) (size := size) [rs laidR, cl b8 #[.bool false] 4, se r xs TB, cl b12 #[.slice va n vc] TBBv] (fun w1 hs => St.unst hs) (by omega) (by omega) (by rw [hK]; rfl) hBk (by decide) (by decide) (fun _ T2 hS2 hD2 hbd2 hok2 => ?_) (fun h => absurd o1 h)
    have hpl2 : T2.S.pl = all.take n' := by rw [hS2, o2, List.take_take, Nat.min_eq_left (by omega)]
    have hl2 : T2.S.pl.length = n' := by rw [hpl2, List.length_take]; omega
    have hsu2 : T2.S.sure = n' := by rw [hS2, o3]
    obtain ⟨va2, vc2, hva2⟩ := sv_sl hok2.row
    refine dr [rs (stR T2), dead, dead, dead, cl b12 #[.slice va n vc] TBBv] 99 (.t 0 (.t 1 (.t 2 (.t 3 (.t 4 (.t 5 (.t 6 (.t 7 (.t 8 (.t 9 (.t 10 (.t 11 (.t 12 (.t 13 (.t 14 (.t 15 (.t 16 (.t 17 (.t 18 (.t 19 (.t 20 (.t 21 .nil)))))))))))))))))))))) tab_ok mixed_ok (by kernel_rfl) (.cons (.dead (.dead (.dead (.cons .nil))))) ?_
    repeat (first | refine ct rfl ?_ | refine cf rfl ?_ | refine ct q2 ?_ | refine cf q1 ?_ | refine ct q4 ?_ | refine cf q3 ?_)
    refine czs (fun w1 hs => by have := stR_cl (hs.res (k := 0) rfl); rw [hva2] at this; exact len_any this) ?_
    rw [hl2]
    repeat (first | refine ct rfl ?_ | refine cf rfl ?_ | refine ct q2 ?_ | refine cf q1 ?_ | refine ct q4 ?_ | refine cf q3 ?_)
    refine czs (fun w1 hs => by have := stR_cl (hs.res (k := 0) rfl); rw [hva2] at this; exact len_any this) ?_
    rw [hl2]
    repeat (first | refine ct rfl ?_ | refine cf rfl ?_ | refine ct q2 ?_ | refine cf q1 ?_ | refine ct q4 ?_ | refine cf q3 ?_)
    refine ld1 4 rfl rfl ?_
    repeat (first | refine ct rfl ?_ | refine cf rfl ?_ | refine ct q2 ?_ | refine cf q1 ?_ | refine ct q4 ?_ | refine cf q3 ?_)
    refine czs (fun w1 hs => sureS_any (stR_cl (hs.res (k := 0) rfl))) ?_
    rw [hsu2]
    repeat (first | refine ct rfl ?_ | refine cf rfl ?_ | refine ct q2 ?_ | refine cf q1 ?_ | refine ct q4 ?_ | refine cf q3 ?_)
    refine czs (fun w1 hs => by have := stR_cl (hs.res (k := 0) rfl); rw [hva2] at this; exact len_any this) ?_
    rw [hl2]
    repeat (first | refine ct rfl ?_ | refine cf rfl ?_ | refine ct q2 ?_ | refine cf q1 ?_ | refine ct q4 ?_ | refine cf q3 ?_ | refine ct (hyy _) ?_ | refine cf (hxx _) ?_)
    refine inl (C := ⟨Tryz.prog, tab, _, [], w, _⟩) tab_ok Tryz.func10 rfl Tryz.ntmps10 rfl ?_
    intro b1
    refine bk ?_
    refine CodeP.from (L' := [rs (stR T2), rs laidR, cl b8 #[.bool false] 4, se r xs TB, cl b12 #[.slice va n vc] TBBv, cl b1 #[ptr T2.bs] TPS, rs (psR (rowB0 w) xs all)]) (fun w1 hs => hk.push hs) ?_
    refine rfiO (C := ⟨Tryz.prog, tab, 151, [], w, none⟩) (L0 := [rs (stR T2), rs laidR, cl b8 #[.bool false] 4, se r xs TB, cl b12 #[.slice va n vc] TBBv, cl b1 #[ptr T2.bs] TPS, rs (psR (rowB0 w) xs all)]) (α := Unit) (β := Empty) tab_ok rfl rfl rfl
      (stall_itr b1 T2 hok2 (by rw [hl2]; omega) (fun p hp => by rw [hpl2] at hp; have := hk.mx p (List.mem_of_mem_take hp); omega)) (fun _ _ => True) (fun _ _ => []) (fun y => y.elim) (fun y => y.elim) () trivial ?_
      (fun w' hs => ⟨⟨hs.nth (k := 5) rfl, hs.res (k := 0) rfl⟩, fun b hb e he => by cases he⟩) ?_ ?_ ?_ ?_
    · exact .refl _
    · rintro i args q j ⟨p, r', _, rfl, _⟩; rfl
    · rintro lq j args q j' _ w' ready busy ⟨p, rr, hpj, rfl, rfl, hR, rfl⟩ _
      rw [hpl2, List.getElem?_take] at hpj
      have hjn : j < n' := by
        by_cases hc : j < n'
        · exact hc
        · rw [if_neg hc] at hpj; cases hpj
      rw [if_pos hjn] at hpj
      obtain ⟨pa, pc, hpv⟩ := hk.pls.at hpj
      obtain ⟨b, hb1, cc, hb2, hb3⟩ := hcell j _ hpv
      subst hb1
      refine ⟨rfl, ?_⟩
      refine ld1 4 rfl rfl ?_
      refine ⟨by omega, by omega, ?_⟩
      refine .mk (.slice pa p.length pc) (fun w2 hs => ?_) ?_
      · have := hs.cell (k := 3) (b := b) (c := cc) (t := TB) (fz := (0, 0)) (ro := true) (by show some (se r xs TB).rd = _; rw [hb2]; rfl) j
        rw [hb3] at this
        rw [nad_eq, nmu_eq]
        simpa using this
      refine cvs (fun w2 hs => same_yes _ _ p w2 (Rd.own hs 7 rfl hR) ((St.resR hs (k := 6) (r := psR (rowB0 w) xs all) rfl).1 j _ _ hpv hpj).rd) ?_
      refine cf rfl ?_
      exact ⟨(), trivial, (.drop (.drop (.drop (.drop (.drop (.drop (.drop (.drop (.cons .nil))))))))), fun e he => by cases he⟩
    · rintro j y b0 _ _
      refine drs [rs (stR T2), dead, dead, dead, cl b12 #[.slice va n vc] TBBv] [6, 7] (.t 0 (.t 1 (.t 2 (.t 3 (.t 4 (.t 5 (.n 6 (.n 7 .nil)))))))) tab_ok mixed_ok (by kernel_rfl) (.cons (.dead (.dead (.dead (.cons .nil))))) ?_
      refine ld1 4 rfl rfl ?_
      refine czs (fun w1 hs => by have := stR_cl (hs.res (k := 0) rfl); rw [hva2] at this; exact len_any this) ?_
      rw [hl2]
      refine slTo hsp (by omega) (by omega) ?_
      refine czs (fun w1 hs => by have := stR_cl (hs.res (k := 0) rfl); rw [hva2] at this; exact len_any this) ?_
      rw [hl2]
      refine s1 4 rfl (by show 0 < 1; decide) ?_
      rw [← hbd2]
      refine cCrash (keep := 0) rfl 0 (by decide) rfl (fun K1 k1 k2 => ?_)
      refine .as (1 : Int) (by decide) (by decide) (by decide) ?_
      refine ⟨((1, [b0]), { T2 with k := K1 }, n', n'), ⟨rfl, by show 1 ≤ 2; decide, k2, by dsimp only; omega, T2.k.D, 0, k1, ?_, ?_⟩, by show 2 - 1 < 2 - 0; decide, ⟨⟨rfl, rfl, rfl, rfl, rfl, rfl, trivial⟩, (.cons (.cons (.cons (.cons (.cons (.drop (.drop (.cons .nil)))))))), rfl⟩⟩
      · dsimp only; rw [hD2]; rw [List.take_take, Nat.min_eq_left (by omega)] at o5; exact o5
      · dsimp only; rw [hD2]; exact (hBk.open size).le (by decide)
    · intro y; exact y.elim
  | 1, [d1], _, _, hBk =>
    refine ct rfl ?_
    rw [← hbd]
    refine cOpen2 (K := T1.k) (size := size) [rs laidR, cl b8 #[.bool false] 4, se r xs TB, cl b12 #[.slice va n vc] TBBv, ⟨d1, some (.deferred (some [])), false, none⟩] (fun w1 hs => St.unst hs) (by omega) (by omega) (by rw [hK]; rfl) hBk (by decide) (by decide) (fun _ T2 hS2 hD2 hbd2 hok2 => ?_) (fun h => absurd o1 h)
    have hpl2 : T2.S.pl = all.take n' := by rw [hS2, o2, List.take_take, Nat.min_eq_left (by omega)]
    have hl2 : T2.S.pl.length = n' := by rw [hpl2, List.length_take]; omega
    have hsu2 : T2.S.sure = n' := by rw [hS2, o3]
    obtain ⟨va2, vc2, hva2⟩ := sv_sl hok2.row
    refine dr [rs (stR T2), dead, dead, dead, cl b12 #[.slice va n vc] TBBv] 99 (.t 0 (.t 1 (.t 2 (.t 3 (.t 4 (.t 5 (.t 6 (.t 7 (.t 8 (.t 9 (.t 10 (.t 11 (.t 12 (.t 13 (.t 14 (.t 15 (.t 16 (.t 17 (.t 18 (.t 19 (.t 20 (.t 21 .nil)))))))))))))))))))))) tab_ok mixed_ok (by kernel_rfl) (.cons (.dead (.dead (.dead (.cons .nil))))) ?_
    repeat (first | refine ct rfl ?_ | refine cf rfl ?_ | refine ct q2 ?_ | refine cf q1 ?_ | refine ct q4 ?_ | refine cf q3 ?_)
    refine czs (fun w1 hs => by have := stR_cl (hs.res (k := 0) rfl); rw [hva2] at this; exact len_any this) ?_
    rw [hl2]
    repeat (first | refine ct rfl ?_ | refine cf rfl ?_ | refine ct q2 ?_ | refine cf q1 ?_ | refine ct q4 ?_ | refine cf q3 ?_)
    refine czs (fun w1 hs => by have := stR_cl (hs.res (k := 0) rfl); rw [hva2] at this; exact len_any this) ?_
    rw [hl2]
    repeat (first | refine ct rfl ?_ | refine cf rfl ?_ | refine ct q2 ?_ | refine cf q1 ?_ | refine ct q4 ?_ | refine cf q3 ?_)
    refine ld1 4 rfl rfl ?_
    repeat (first | refine ct rfl ?_ | refine cf rfl ?_ | refine ct q2 ?_ | refine cf q1 ?_ | refine ct q4 ?_ | refine cf q3 ?_)
    refine czs (fun w1 hs => sureS_any (stR_cl (hs.res (k := 0) rfl))) ?_
    rw [hsu2]
    repeat (first | refine ct rfl ?_ | refine cf rfl ?_ | refine ct q2 ?_ | refine cf q1 ?_ | refine ct q4 ?_ | refine cf q3 ?_)
    refine czs (fun w1 hs => by have := stR_cl (hs.res (k := 0) rfl); rw [hva2] at this; exact len_any this) ?_
    rw [hl2]
    repeat (first | refine ct rfl ?_ | refine cf rfl ?_ | refine ct q2 ?_ | refine cf q1 ?_ | refine ct q4 ?_ | refine cf q3 ?_ | refine ct (hyy _) ?_ | refine cf (hxx _) ?_)
    refine inl (C := ⟨Tryz.prog, tab, _, [], w, _⟩) tab_ok Tryz.func10 rfl Tryz.ntmps10 rfl ?_
    intro b1
    refine bk ?_
    refine CodeP.from (L' := [rs (stR T2), rs laidR, cl b8 #[.bool false] 4, se r xs TB, cl b12 #[.slice va n vc] TBBv, ⟨d1, some (.deferred (some [])), false, none⟩, cl b1 #[ptr T2.bs] TPS, rs (psR (rowB0 w) xs all)]) (fun w1 hs => hk.push hs) ?_
    refine rfiO (C := ⟨Tryz.prog, tab, 151, [], w, none⟩) (L0 := [rs (stR T2), rs laidR, cl b8 #[.bool false] 4, se r xs TB, cl b12 #[.slice va n vc] TBBv, ⟨d1, some (.deferred (some [])), false, none⟩, cl b1 #[ptr T2.bs] TPS, rs (psR (rowB0 w) xs all)]) (α := Unit) (β := Empty) tab_ok rfl rfl rfl
      (stall_itr b1 T2 hok2 (by rw [hl2]; omega) (fun p hp => by rw [hpl2] at hp; have := hk.mx p (List.mem_of_mem_take hp); omega)) (fun _ _ => True) (fun _ _ => []) (fun y => y.elim) (fun y => y.elim) () trivial ?_
      (fun w' hs => ⟨⟨hs.nth (k := 6) rfl, hs.res (k := 0) rfl⟩, fun b hb e he => by cases he⟩) ?_ ?_ ?_ ?_
    · exact .refl _
    · rintro i args q j ⟨p, r', _, rfl, _⟩; rfl
    · rintro lq j args q j' _ w' ready busy ⟨p, rr, hpj, rfl, rfl, hR, rfl⟩ _
      rw [hpl2, List.getElem?_take] at hpj
      have hjn : j < n' := by
        by_cases hc : j < n'
        · exact hc
        · rw [if_neg hc] at hpj; cases hpj
      rw [if_pos hjn] at hpj
      obtain ⟨pa, pc, hpv⟩ := hk.pls.at hpj
      obtain ⟨b, hb1, cc, hb2, hb3⟩ := hcell j _ hpv
      subst hb1
      refine ⟨rfl, ?_⟩
      refine ld1 4 rfl rfl ?_
      refine ⟨by omega, by omega, ?_⟩
      refine .mk (.slice pa p.length pc) (fun w2 hs => ?_) ?_
      · have := hs.cell (k := 3) (b := b) (c := cc) (t := TB) (fz := (0, 0)) (ro := true) (by show some (se r xs TB).rd = _; rw [hb2]; rfl) j
        rw [hb3] at this
        rw [nad_eq, nmu_eq]
        simpa using this
      refine cvs (fun w2 hs => same_yes _ _ p w2 (Rd.own hs 8 rfl hR) ((St.resR hs (k := 7) (r := psR (rowB0 w) xs all) rfl).1 j _ _ hpv hpj).rd) ?_
      refine cf rfl ?_
      exact ⟨(), trivial, (.drop (.drop (.drop (.drop (.drop (.drop (.drop (.drop (.drop (.cons .nil)))))))))), fun e he => by cases he⟩
    · rintro j y b0 _ _
      refine drs [rs (stR T2), dead, dead, dead, cl b12 #[.slice va n vc] TBBv] [6, 7] (.t 0 (.t 1 (.t 2 (.t 3 (.t 4 (.t 5 (.n 6 (.n 7 .nil)))))))) tab_ok mixed_ok (by kernel_rfl) (.cons (.dead (.dead (.dead (.cons .nil))))) ?_
      refine ld1 4 rfl rfl ?_
      refine czs (fun w1 hs => by have := stR_cl (hs.res (k := 0) rfl); rw [hva2] at this; exact len_any this) ?_
      rw [hl2]
      refine slTo hsp (by omega) (by omega) ?_
      refine czs (fun w1 hs => by have := stR_cl (hs.res (k := 0) rfl); rw [hva2] at this; exact len_any this) ?_
      rw [hl2]
      refine s1 4 rfl (by show 0 < 1; decide) ?_
      rw [← hbd2]
      refine cCrash (keep := 0) rfl 0 (by decide) rfl (fun K1 k1 k2 => ?_)
      refine .as (2 : Int) (by decide) (by decide) (by decide) ?_
      refine ⟨((2, [b0, d1]), { T2 with k := K1 }, n', n'), ⟨rfl, by show 2 ≤ 2; decide, k2, by dsimp only; omega, T2.k.D, 0, k1, ?_, ?_⟩, by show 2 - 2 < 2 - 1; decide, ⟨⟨rfl, rfl, rfl, rfl, rfl, rfl, trivial⟩, (.cons (.cons (.cons (.cons (.cons (.cons (.drop (.drop (.cons .nil))))))))), rfl⟩⟩
      · dsimp only; rw [hD2]; rw [List.take_take, Nat.min_eq_left (by omega)] at o5; exact o5
      · dsimp only; rw [hD2]; exact (hBk.open size).le (by decide)
    · intro y; exact y.elim
  | 2, [d1, d2], _, _, _ =>
    refine cf rfl ?_
    refine s1 2 rfl (by show 0 < 1; decide) ?_
    refine .mk 6 rfl ?_
    refine .mk 5 rfl ?_
    refine ld1 2 rfl rfl ?_
    exact rt rfl
end Go.Proofs.YteamnhpplclmfaaGreatDoor
end
