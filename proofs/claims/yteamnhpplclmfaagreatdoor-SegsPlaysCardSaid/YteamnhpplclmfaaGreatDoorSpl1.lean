/- For every quota, size and script the law SegsPlays returns true; no condition. -/
import Derived.Deep.Slices
import Derived.Test.YteamnhpplclmfaaGreatDoorSb6
section
namespace Go.Proofs.YteamnhpplclmfaaGreatDoor
open Go.RowKit Go.Sx
set_option linter.unusedVariables false
def encL (ps : List Bs) : Bs := (ps.map recP).flatten
theorem enc_cons (p : Bs) (ps : List Bs) : encL (p :: ps) = recP p ++ encL ps := rfl
theorem enc_app (ps qs : List Bs) : encL (ps ++ qs) = encL ps ++ encL qs := by simp [encL]
theorem enc_one (p : Bs) : encL [p] = recP p := by simp [encL]
theorem enc_len (ps : List Bs) : (encL ps).length = wholeL ps := by
  induction ps with
  | nil => rfl
  | cons p ps ih => rw [enc_cons, List.length_append, ih, whole_cons, rec_len]
theorem whole_appL (ps qs : List Bs) : wholeL (ps ++ qs) = wholeL ps + wholeL qs := by simp [wholeL]
theorem u8_nat (n : Nat) : (UInt8.ofNat (n % 256)).toNat = n % 256 := by rw [UInt8.toNat_ofNat']; omega
theorem unle_le4 (n : Nat) (h : n < 4294967296) : unle (le4 n) = n := by
  show (UInt8.ofNat (n % 256)).toNat + 256 * ((UInt8.ofNat (n / 256 % 256)).toNat + 256 * ((UInt8.ofNat (n / 65536 % 256)).toNat + 256 * ((UInt8.ofNat (n / 16777216 % 256)).toNat + 256 * 0))) = n
  rw [u8_nat, u8_nat, u8_nat, u8_nat]; omega
theorem rec_take4 (p rest : Bs) : (recP p ++ rest).take 4 = le4 p.length := by simp [recP, le4]
theorem rec_mid (p rest : Bs) : ((recP p ++ rest).drop 4).take 4 = le4 (crcP [le4 p.length, p]) := by simp [recP, le4]
theorem rec_drop8 (p rest : Bs) : (recP p ++ rest).drop 8 = p ++ rest := by simp [recP, le4]
theorem first_rec (p rest : Bs) (hp : p.length ≤ 65536) : firstP (recP p ++ rest) = some p := by
  have h1 := rec_take4 p rest
  have h2 := unle_le4 p.length (by omega)
  have h3 := unle_le4 _ (crc_lt [le4 p.length, p])
  have h4 : (recP p ++ rest).length = 8 + p.length + rest.length := by rw [List.length_append, rec_len]
  unfold firstP
  rw [h1, h2, rec_mid, rec_drop8, h3, h4, if_neg (by omega), if_neg (by omega)]
  simp
theorem recs_enc (ps : List Bs) (rest : Bs) (h : ∀ p ∈ ps, p.length ≤ 65536) : recsP (encL ps ++ rest) = ps ++ recsP rest := by
  induction ps with
  | nil => rfl
  | cons p ps ih =>
    rw [enc_cons, List.append_assoc, recs_some (first_rec p _ (h p (by simp))), ← rec_len, List.drop_left, ih fun q hq => h q (by simp [hq])]
    rfl
theorem recs_nil : recsP [] = [] := rfl
theorem recs_all (ps : List Bs) (h : ∀ p ∈ ps, p.length ≤ 65536) : recsP (encL ps) = ps := by
  have := recs_enc ps [] h
  rwa [List.append_nil, recs_nil, List.append_nil] at this
theorem whole_enc (ps : List Bs) (h : ∀ p ∈ ps, p.length ≤ 65536) : wholeP (encL ps) = (encL ps).length := by
  unfold wholeP; rw [recs_all ps h, enc_len]
/-- a record that is torn is none -/
theorem first_torn (p rest : Bs) (n : Nat) (hp : p.length ≤ 65536) (hn : n < 8 + p.length) : firstP ((recP p ++ rest).take n) = none := by
  have hl : ((recP p ++ rest).take n).length ≤ n := List.length_take_le ..
  unfold firstP
  by_cases h8 : ((recP p ++ rest).take n).length < 8
  · rw [if_pos h8]
  · rw [if_neg h8]
    have h1 : ((recP p ++ rest).take n).take 4 = le4 p.length := by rw [List.take_take, Nat.min_eq_left (by omega), rec_take4]
    rw [h1, unle_le4 _ (by omega), if_pos (.inr (by omega))]
/-- rows that are torn: the records that are whole -/
theorem recs_torn (ps : List Bs) (h : ∀ p ∈ ps, p.length ≤ 65536) : ∀ n, ∃ j, j ≤ ps.length ∧ recsP ((encL ps).take n) = ps.take j ∧ wholeL (ps.take j) ≤ n ∧ ∀ q, q ≤ ps.length → wholeL (ps.take q) ≤ n → q ≤ j := by
  induction ps with
  | nil => exact fun n => ⟨0, Nat.le_refl _, by simp [encL, recs_nil], by simp [wholeL], fun q hq _ => hq⟩
  | cons p ps ih =>
    intro n
    have hp := h p (by simp)
    by_cases hn : n < 8 + p.length
    · refine ⟨0, Nat.zero_le _, ?_, by simp [wholeL], fun q hq hw => ?_⟩
      · rw [enc_cons, recs_none (first_torn p _ n hp hn)]; rfl
      · cases q with
        | zero => exact Nat.le_refl _
        | succ q => rw [List.take_succ_cons, whole_cons] at hw; omega
    · obtain ⟨j, h1, h2, h3, h4⟩ := ih (fun q hq => h q (by simp [hq])) (n - (8 + p.length))
      refine ⟨j + 1, by simp; omega, ?_, ?_, fun q hq hw => ?_⟩
      · have e : (encL (p :: ps)).take n = recP p ++ (encL ps).take (n - (8 + p.length)) := by
          rw [enc_cons, List.take_append, List.take_of_length_le (by rw [rec_len]; omega), rec_len]
        rw [e, recs_some (first_rec p _ hp), ← rec_len, List.drop_left, rec_len, h2]; rfl
      · rw [List.take_succ_cons, whole_cons]; omega
      · cases q with
        | zero => exact Nat.zero_le _
        | succ q =>
          rw [List.take_succ_cons, whole_cons] at hw
          have := h4 q (by simpa using hq) (by omega)
          omega
theorem told_rec (m : Nat) (h1 : 1 ≤ m) (h2 : m ≤ 1048576) : toldP (recP (le4 m)) = m := by
  have h3 : recsP (recP (le4 m)) = [le4 m] := by
    have := recs_all [le4 m] (fun p hp => by obtain rfl := List.mem_singleton.1 hp; show 4 ≤ 65536; decide)
    rwa [enc_one] at this
  have h4 : (recP (le4 m)).length = 12 := by rw [rec_len]; rfl
  have h5 := unle_le4 m (by omega)
  unfold toldP
  rw [h3]
  show (if (le4 m).length = 4 ∧ _ then _ else _) = _
  rw [h5, h4, if_pos ⟨rfl, rfl, h1, h2⟩]
end Go.Proofs.YteamnhpplclmfaaGreatDoor
end
section
namespace Go.Proofs.YteamnhpplclmfaaGreatDoor
open Go.RowKit Go.Sx
set_option linter.unusedVariables false
def figK : Nat → Nat → Bs
  | 0, _ => []
  | k + 1, n => UInt8.ofNat (48 + n / 10 ^ k % 10) :: figK k (n % 10 ^ k)
theorem dig_mod (n m k : Nat) (h : k < m) : n % 10 ^ m / 10 ^ k % 10 = n / 10 ^ k % 10 := by
  obtain ⟨j, rfl⟩ : ∃ j, m = k + (j + 1) := ⟨m - k - 1, by omega⟩
  rw [Nat.pow_add, Nat.mod_mul_right_div_self, Nat.mod_mod_of_dvd]
  exact ⟨10 ^ j, by rw [Nat.pow_succ, Nat.mul_comm]⟩
theorem figK_mod : ∀ (k m n : Nat), k ≤ m → figK k (n % 10 ^ m) = figK k n := by
  intro k
  induction k with
  | zero => intro m n _; rfl
  | succ k ih =>
    intro m n h
    rw [figK, figK, dig_mod n m k h, Nat.mod_mod_of_dvd _ (Nat.pow_dvd_pow 10 (by omega))]
theorem figK_s (k n : Nat) : figK (k + 1) n = UInt8.ofNat (48 + n / 10 ^ k % 10) :: figK k n := by rw [figK, figK_mod k k n (Nat.le_refl _)]
theorem fig8_K (n : Nat) : fig8 n = figK 8 n := by
  rw [figK_s, figK_s, figK_s, figK_s, figK_s, figK_s, figK_s, figK_s, Nat.pow_zero, Nat.div_one]
  rfl
theorem figK_lt : ∀ (k a b : Nat), b < 10 ^ k → a < b → figK k a < figK k b := by
  intro k
  induction k with
  | zero => intro a b hb hab; simp at hb; omega
  | succ k ih =>
    intro a b hb hab
    have hp : 0 < 10 ^ k := Nat.pos_of_ne_zero (by simp)
    rw [Nat.pow_succ] at hb
    have ha2 : a / 10 ^ k < 10 := by rw [Nat.div_lt_iff_lt_mul hp]; omega
    have hb2 : b / 10 ^ k < 10 := by rw [Nat.div_lt_iff_lt_mul hp]; omega
    have hle : a / 10 ^ k ≤ b / 10 ^ k := Nat.div_le_div_right (Nat.le_of_lt hab)
    rw [figK, figK, List.cons_lt_cons_iff, Nat.mod_eq_of_lt ha2, Nat.mod_eq_of_lt hb2]
    have hu : ∀ x, x < 10 → (UInt8.ofNat (48 + x)).toNat = 48 + x := fun x hx => by rw [UInt8.toNat_ofNat']; omega
    rcases Nat.lt_or_ge (a / 10 ^ k) (b / 10 ^ k) with h | h
    · left
      rw [UInt8.lt_iff_toNat_lt, hu _ ha2, hu _ hb2]; omega
    · right
      have he : a / 10 ^ k = b / 10 ^ k := by omega
      refine ⟨by rw [he], ih _ _ (Nat.mod_lt _ hp) ?_⟩
      have h1 := Nat.div_add_mod a (10 ^ k)
      have h2 := Nat.div_add_mod b (10 ^ k)
      rw [he] at h1
      omega
theorem name_lt {a b : Nat} (hb : b < 100000000) (hab : a < b) : nameS a < nameS b := by
  unfold nameS
  rw [fig8_K, fig8_K]
  have := figK_lt 8 a b (by simpa using hb) hab
  show (115 :: 101 :: 103 :: 45 :: figK 8 a : Bs) < 115 :: 101 :: 103 :: 45 :: figK 8 b
  simpa [List.cons_lt_cons_iff] using this
theorem name_inj {a b : Nat} (ha : a < 100000000) (hb : b < 100000000) (h : nameS a = nameS b) : a = b := by
  rcases Nat.lt_trichotomy a b with h1 | h1 | h1
  · have := name_lt hb h1; rw [h] at this; exact absurd this (List.lt_irrefl _)
  · exact h1
  · have := name_lt ha h1; rw [h] at this; exact absurd this (List.lt_irrefl _)
theorem name_man (a : Nat) : nameS a ≠ manB := by unfold nameS manB; intro h; injection h with h1 _; cases h1
theorem name_new (a : Nat) : nameS a ≠ newB := by unfold nameS newB; intro h; injection h with h1 _; cases h1
theorem man_new : manB ≠ newB := by decide
theorem named_new : namedL newB = true := by decide
theorem named_man : namedL manB = true := by decide
theorem named_seg (n : Nat) : namedL (nameS n) = true := by
  have hd : ∀ x, nameB (UInt8.ofNat (48 + x % 10)) = true := fun x => by
    have : (UInt8.ofNat (48 + x % 10)).toNat = 48 + x % 10 := by rw [UInt8.toNat_ofNat']; omega
    unfold nameB nameN
    rw [this]
    have h1 : (48 ≤ 48 + x % 10) := by omega
    have h2 : 48 + x % 10 ≤ 57 := by omega
    simp [h1, h2]
  unfold namedL nameS fig8
  simp only [List.cons_append, List.nil_append, List.all_cons, List.all_nil, hd, Bool.and_true, List.length_cons, List.length_nil]
  rfl
theorem pre_seg (n : Nat) : List.isPrefixOf [115, 101, 103, 45] (nameS n) = true := rfl
theorem find_set (n : Bs) (f : Fe) (fs : List Fe) : findF n (setF f fs) = if n = f.name then some f else findF n fs := by
  induction fs with
  | nil => simp only [setF, findF]
  | cons g l ih =>
    rw [setF]
    by_cases h : f.name = g.name
    · rw [if_pos h]
      simp only [findF]
      split
      · rfl
      · rename_i h2; rw [if_neg (by rw [← h]; exact h2)]
    · rw [if_neg h]
      simp only [findF, ih]
      by_cases h2 : n = g.name
      · rw [if_pos h2, if_pos h2, if_neg (by rw [h2]; exact fun e => h e.symm)]
      · rw [if_neg h2, if_neg h2]
theorem find_del {fs : List Fe} (h : Nms fs) (n m : Bs) : findF n (delF m fs) = if n = m then none else findF n fs := by
  induction fs with
  | nil => simp [delF, findF]
  | cons g l ih =>
    have hn : g.name ∉ l.map (·.name) ∧ Nms l := by simpa [Nms] using h
    rw [delF]
    by_cases hm : m = g.name
    · rw [if_pos hm]
      by_cases hnm : n = m
      · rw [if_pos hnm]
        exact findF_none.2 (by rw [hnm, hm]; exact hn.1)
      · rw [if_neg hnm, findF, if_neg (by rw [← hm]; exact hnm)]
    · rw [if_neg hm]
      simp only [findF, ih hn.2]
      by_cases h2 : n = g.name
      · rw [if_pos h2, if_pos h2, if_neg (by rw [h2]; exact fun e => hm e.symm)]
      · rw [if_neg h2, if_neg h2]
theorem find_crashF (k : Int) (n : Bs) (fs : List Fe) : findF n (fs.map (crashF k)) = (findF n fs).map (crashF k) := by
  induction fs with
  | nil => rfl
  | cons g l ih =>
    rw [List.map_cons]
    simp only [findF]
    rw [show (crashF k g).name = g.name from rfl]
    by_cases h : n = g.name
    · rw [if_pos h, if_pos h]; rfl
    · rw [if_neg h, if_neg h]; exact ih
end Go.Proofs.YteamnhpplclmfaaGreatDoor
end
section
namespace Go.Proofs.YteamnhpplclmfaaGreatDoor
open Go.RowKit Go.Sx
set_option linter.unusedVariables false
/-- the files of a store: segments that are full and sure, the last one with so many records that are sure, the manifest -/
structure Gd (Ss : List (List Bs)) (P : List Bs) (q : Nat) (F : List Fe) : Prop where
  nd : Nms F
  m : Ss.length < 100000
  sh : ∀ s ∈ Ss, ∀ p ∈ s, p.length ≤ 65536
  ph : ∀ p ∈ P, p.length ≤ 65536
  ful : ∀ i (h : i < Ss.length), ∃ f, findF (nameS (i + 1)) F = some f ∧ f.bs = encL Ss[i] ∧ f.sure = f.bs.length
  ql : q ≤ P.length
  las : (P = [] ∧ findF (nameS (Ss.length + 1)) F = none) ∨ ∃ f, findF (nameS (Ss.length + 1)) F = some f ∧ f.bs = encL P ∧ f.sure = wholeL (P.take q)
  man : if Ss.length = 0 then findF manB F = none else ∃ f, findF manB F = some f ∧ f.bs = recP (le4 (Ss.length + 1)) ∧ f.sure = f.bs.length
  oth : ∀ f ∈ F, f.name = manB ∨ f.name = newB ∨ ∃ i, 1 ≤ i ∧ i ≤ Ss.length + 1 ∧ f.name = nameS i
theorem Gd.nil : Gd [] [] 0 [] := ⟨List.nodup_nil, by decide, by simp, by simp, (fun i h => by simp at h), Nat.le_refl _, .inl ⟨rfl, rfl⟩, rfl, by simp⟩
theorem name_ne {a b : Nat} (ha : a < 200000) (hb : b < 200000) (h : a ≠ b) : nameS a ≠ nameS b := fun e => h (name_inj (by omega) (by omega) e)
/-- a file that is neither a segment nor the manifest changes nothing -/
theorem Gd.new {Ss : List (List Bs)} {P : List Bs} {q : Nat} {F : List Fe} (h : Gd Ss P q F) (bs : Bs) (s : Nat) : Gd Ss P q (setF ⟨newB, bs, s⟩ F) := by
  have hn : ∀ a, findF (nameS a) (setF ⟨newB, bs, s⟩ F) = findF (nameS a) F := fun a => by rw [find_set, if_neg (name_new a)]
  refine ⟨set_nd h.nd _, h.m, h.sh, h.ph, fun i hi => by rw [hn]; exact h.ful i hi, h.ql, by rw [hn]; exact h.las, ?_, fun f hf => ?_⟩
  · have := h.man
    rw [find_set, if_neg (show manB ≠ newB from man_new)]; exact this
  · rcases (set_mem h.nd _ f).1 hf with rfl | hf
    · exact .inr (.inl rfl)
    · exact h.oth f hf.1
theorem Gd.unnew {Ss : List (List Bs)} {P : List Bs} {q : Nat} {F : List Fe} (h : Gd Ss P q F) : Gd Ss P q (delF newB F) := by
  have hn : ∀ a, findF (nameS a) (delF newB F) = findF (nameS a) F := fun a => by rw [find_del h.nd, if_neg (name_new a)]
  refine ⟨del_nd h.nd _, h.m, h.sh, h.ph, fun i hi => by rw [hn]; exact h.ful i hi, h.ql, by rw [hn]; exact h.las, ?_, fun f hf => h.oth f ((del_mem h.nd _ f).1 hf).1⟩
  have := h.man
  rw [find_del h.nd, if_neg (show manB ≠ newB from man_new)]; exact this
/-- the last segment's file is another one -/
theorem Gd.last {Ss : List (List Bs)} {P P' : List Bs} {q q' : Nat} {F : List Fe} (h : Gd Ss P q F) (hP : ∀ p ∈ P', p.length ≤ 65536) (hq : q' ≤ P'.length) : Gd Ss P' q' (setF ⟨nameS (Ss.length + 1), encL P', wholeL (P'.take q')⟩ F) := by
  have hm := h.m
  refine ⟨set_nd h.nd _, h.m, h.sh, hP, fun i hi => ?_, hq, .inr ⟨_, by rw [find_set, if_pos rfl], rfl, rfl⟩, ?_, fun f hf => ?_⟩
  · rw [find_set, if_neg (name_ne (by omega) (by omega) (by omega))]; exact h.ful i hi
  · have := h.man
    rw [find_set, if_neg (show ¬ manB = nameS (Ss.length + 1) from fun e => name_man _ e.symm)]; exact this
  · rcases (set_mem h.nd _ f).1 hf with rfl | hf
    · exact .inr (.inr ⟨Ss.length + 1, by omega, Nat.le_refl _, rfl⟩)
    · exact h.oth f hf.1
/-- the next segment begins -/
theorem Gd.next {Ss : List (List Bs)} {P : List Bs} {F : List Fe} (h : Gd Ss P P.length F) (hP : P ≠ []) (hm : Ss.length + 1 < 100000) : Gd (Ss ++ [P]) [] 0 (setF ⟨manB, recP (le4 (Ss.length + 2)), (recP (le4 (Ss.length + 2))).length⟩ (delF newB F)) := by
  have h1 := h.unnew
  have hl : (Ss ++ [P]).length = Ss.length + 1 := by simp
  have hn : ∀ a, findF (nameS a) (setF ⟨manB, recP (le4 (Ss.length + 2)), (recP (le4 (Ss.length + 2))).length⟩ (delF newB F)) = findF (nameS a) (delF newB F) := fun a => by rw [find_set, if_neg (name_man a)]
  have hnone : findF (nameS (Ss.length + 2)) (delF newB F) = none := find_none fun f hf e => by
    rcases h1.oth f hf with h2 | h2 | ⟨i, h2, h3, h4⟩
    · exact name_man _ (e.symm.trans h2)
    · exact name_new _ (e.symm.trans h2)
    · exact name_ne (by omega) (by omega) (by omega) (h4.symm.trans e)
  refine ⟨set_nd h1.nd _, by omega, fun s hs => ?_, by simp, fun i hi => ?_, Nat.le_refl _, .inl ⟨rfl, by rw [hl, hn]; exact hnone⟩, ?_, fun f hf => ?_⟩
  · rcases List.mem_append.1 hs with hs | hs
    · exact h.sh s hs
    · obtain rfl := List.mem_singleton.1 hs; exact h.ph
  · rw [hn]
    by_cases hi2 : i < Ss.length
    · obtain ⟨f, e1, e2, e3⟩ := h1.ful i hi2
      exact ⟨f, e1, by rw [List.getElem_append_left hi2]; exact e2, e3⟩
    · obtain rfl : i = Ss.length := by omega
      rcases h1.las with ⟨e, _⟩ | ⟨f, e1, e2, e3⟩
      · exact absurd e hP
      · exact ⟨f, e1, by simpa using e2, by rw [e3, e2, List.take_length, enc_len]⟩
  · rw [hl, if_neg (by omega)]
    exact ⟨_, by rw [find_set, if_pos rfl], rfl, rfl⟩
  · rcases (set_mem h1.nd _ f).1 hf with rfl | hf
    · exact .inl rfl
    · rcases h1.oth f hf.1 with h2 | h2 | ⟨i, h2, h3, h4⟩
      · exact .inl h2
      · exact .inr (.inl h2)
      · exact .inr (.inr ⟨i, h2, by omega, h4⟩)
/-- the last segment is made sure -/
theorem Gd.synced {Ss : List (List Bs)} {P : List Bs} {q : Nat} {F : List Fe} (h : Gd Ss P q F) {f : Fe} (hf : findF (nameS (Ss.length + 1)) F = some f) : Gd Ss P P.length (setF ⟨nameS (Ss.length + 1), f.bs, f.bs.length⟩ F) := by
  rcases h.las with ⟨_, e⟩ | ⟨g, e1, e2, e3⟩
  · rw [hf] at e; cases e
  · obtain rfl := Option.some.inj (e1.symm.trans hf)
    have := h.last (P' := P) (q' := P.length) h.ph (Nat.le_refl _)
    rw [List.take_length, ← enc_len, ← e2] at this
    exact this
end Go.Proofs.YteamnhpplclmfaaGreatDoor
end
section
namespace Go.Proofs.YteamnhpplclmfaaGreatDoor
open Go.RowKit Go.Sx
set_option linter.unusedVariables false
theorem act_cases (D : Dk) (fs : List Fe) : ((actD D fs).2 = 0 ∧ (actD D fs).1.files = fs) ∨ ((actD D fs).2 = 4 ∧ (actD D fs).1.files = D.files) := by
  unfold actD
  split
  · exact .inl ⟨rfl, rfl⟩
  · exact .inr ⟨rfl, stepD_files D⟩
theorem append_eq (D : Dk) (n x : Bs) (hn : namedL n = true) : appendD D n x = if (D.quota : Int) - usedD D.files < x.length then (D, 3) else actD D (setF ⟨n, (match findF n D.files with | some f => f.bs | none => []) ++ x, match findF n D.files with | some f => f.sure | none => 0⟩ D.files) := by
  unfold appendD actD; rw [if_neg (by rw [hn]; decide)]; rfl
theorem sync_eq {D : Dk} {n : Bs} {f : Fe} (h : findF n D.files = some f) : syncD D n = actD D (setF ⟨n, f.bs, f.bs.length⟩ D.files) := by unfold syncD; rw [h]
theorem rename_eq {D : Dk} {n m : Bs} {f : Fe} (h : findF n D.files = some f) (hm : namedL m = true) : renameD D n m = actD D (setF ⟨m, f.bs, f.bs.length⟩ (delF n D.files)) := by unfold renameD; rw [h]; exact if_neg (by rw [hm]; decide)
/-- where a store goes on -/
structure Al (x : Pt) (Ss : List (List Bs)) (P : List Bs) (q : Nat) : Prop where
  g : Gd Ss P q x.D.files
  nn : findF newB x.D.files = none
  la : x.last = Ss.length + 1
  le : x.length = wholeL P
def cnt (Ss : List (List Bs)) (q : Nat) : Nat := Ss.flatten.length + q
theorem then_no {x : Dk × Nat} {f : Dk → Dk × Nat} (h : x.2 ≠ 0) : thenD x f = x := if_neg h
theorem then_ok {x : Dk × Nat} {f : Dk → Dk × Nat} (h : x.2 = 0) : thenD x f = f x.1 := if_pos h
theorem next_plain {D : Dk} {Ss : List (List Bs)} {P : List Bs} {q : Nat} (h : Gd Ss P q D.files) (hn : findF newB D.files = none) (hP : P ≠ []) (hm : Ss.length + 1 < 100000) :
    ((nextD D (Ss.length + 1)).2 ≠ 0 ∧ ∃ q', q ≤ q' ∧ Gd Ss P q' (nextD D (Ss.length + 1)).1.files) ∨ ((nextD D (Ss.length + 1)).2 = 0 ∧ Gd (Ss ++ [P]) [] 0 (nextD D (Ss.length + 1)).1.files ∧ findF newB (nextD D (Ss.length + 1)).1.files = none) := by
  obtain ⟨f, hf⟩ : ∃ f, findF (nameS (Ss.length + 1)) D.files = some f := by
    rcases h.las with ⟨e, _⟩ | ⟨f, e, _⟩
    · exact absurd e hP
    · exact ⟨f, e⟩
  have hql := h.ql
  obtain ⟨b, hb⟩ : ∃ b, b = recP (le4 (Ss.length + 2)) := ⟨_, rfl⟩
  have e0 : nextD D (Ss.length + 1) = thenD (thenD (thenD (syncD D (nameS (Ss.length + 1))) fun D => appendD D newB b) fun D => syncD D newB) fun D => renameD D newB manB := by rw [hb]; rfl
  have fall : ∀ x : Dk × Nat, x.2 ≠ 0 → (∃ q', q ≤ q' ∧ Gd Ss P q' x.1.files) → nextD D (Ss.length + 1) = x → ((nextD D (Ss.length + 1)).2 ≠ 0 ∧ ∃ q', q ≤ q' ∧ Gd Ss P q' (nextD D (Ss.length + 1)).1.files) := fun x h1 h2 h3 => by rw [h3]; exact ⟨h1, h2⟩
  rcases act_cases D (setF ⟨nameS (Ss.length + 1), f.bs, f.bs.length⟩ D.files) with ⟨c1, d1⟩ | ⟨c1, d1⟩
  case inr =>
    rw [← sync_eq hf] at c1 d1
    refine .inl (fall _ (by rw [c1]; decide) ⟨q, Nat.le_refl _, by rw [d1]; exact h⟩ ?_)
    have k : (syncD D (nameS (Ss.length + 1))).2 ≠ 0 := by rw [c1]; decide
    rw [e0, then_no k, then_no k, then_no k]
  rw [← sync_eq hf] at c1 d1
  have g1 := h.synced hf
  rw [← d1] at g1
  have n1 : findF newB (syncD D (nameS (Ss.length + 1))).1.files = none := by rw [d1, find_set, if_neg (show ¬ newB = nameS (Ss.length + 1) from fun e => name_new _ e.symm)]; exact hn
  obtain ⟨D1, hD1⟩ : ∃ D1, D1 = (syncD D (nameS (Ss.length + 1))).1 := ⟨_, rfl⟩
  rw [← hD1] at g1 n1
  have e1 : nextD D (Ss.length + 1) = thenD (thenD (appendD D1 newB b) fun D => syncD D newB) fun D => renameD D newB manB := by
    rw [e0, hD1, then_ok c1]
  have ea := append_eq D1 newB b named_new
  rw [n1] at ea
  by_cases hfull : (D1.quota : Int) - usedD D1.files < b.length
  · rw [if_pos hfull] at ea
    refine .inl (fall (D1, 3) (show 3 ≠ 0 by decide) ⟨P.length, hql, g1⟩ ?_)
    rw [e1, ea]; rfl
  rw [if_neg hfull] at ea
  rcases act_cases D1 (setF ⟨newB, [] ++ b, 0⟩ D1.files) with ⟨c2, d2⟩ | ⟨c2, d2⟩
  case inr =>
    rw [← ea] at c2 d2
    refine .inl (fall _ (by rw [c2]; decide) ⟨P.length, hql, by rw [d2]; exact g1⟩ ?_)
    have k : (appendD D1 newB b).2 ≠ 0 := by rw [c2]; decide
    rw [e1, then_no k, then_no k]
  rw [← ea] at c2 d2
  have g2 := g1.new ([] ++ b) 0
  rw [← d2] at g2
  have n2 : findF newB (appendD D1 newB b).1.files = some ⟨newB, b, 0⟩ := by rw [d2, find_set, if_pos rfl]; rfl
  obtain ⟨D2, hD2⟩ : ∃ D2, D2 = (appendD D1 newB b).1 := ⟨_, rfl⟩
  rw [← hD2] at g2 n2
  have e2 : nextD D (Ss.length + 1) = thenD (syncD D2 newB) fun D => renameD D newB manB := by
    rw [e1, hD2, then_ok c2]
  rcases act_cases D2 (setF ⟨newB, b, b.length⟩ D2.files) with ⟨c3, d3⟩ | ⟨c3, d3⟩
  case inr =>
    rw [← sync_eq n2] at c3 d3
    refine .inl (fall _ (by rw [c3]; decide) ⟨P.length, hql, by rw [d3]; exact g2⟩ ?_)
    have k : (syncD D2 newB).2 ≠ 0 := by rw [c3]; decide
    rw [e2, then_no k]
  rw [← sync_eq n2] at c3 d3
  have g3 := g2.new b b.length
  rw [← d3] at g3
  have n3 : findF newB (syncD D2 newB).1.files = some ⟨newB, b, b.length⟩ := by rw [d3, find_set, if_pos rfl]
  obtain ⟨D3, hD3⟩ : ∃ D3, D3 = (syncD D2 newB).1 := ⟨_, rfl⟩
  rw [← hD3] at g3 n3
  have e3 : nextD D (Ss.length + 1) = renameD D3 newB manB := by
    rw [e2, hD3, then_ok c3]
  have er := rename_eq (m := manB) n3 named_man
  rcases act_cases D3 (setF ⟨manB, b, b.length⟩ (delF newB D3.files)) with ⟨c4, d4⟩ | ⟨c4, d4⟩
  · rw [← er] at c4 d4
    rw [e3]
    refine .inr ⟨c4, ?_, ?_⟩
    · rw [d4, hb]; exact g3.next hP hm
    · rw [d4, find_set, if_neg (show ¬ newB = manB from fun e => man_new e.symm), find_del g3.nd, if_pos rfl]
  · rw [← er] at c4 d4
    exact .inl (fall _ (by rw [c4]; decide) ⟨P.length, hql, by rw [d4]; exact g3⟩ e3)
end Go.Proofs.YteamnhpplclmfaaGreatDoor
end
section
namespace Go.Proofs.YteamnhpplclmfaaGreatDoor
open Go.RowKit Go.Sx
set_option linter.unusedVariables false
theorem whole_pos {P : List Bs} (h : 0 < wholeL P) : P ≠ [] := by rintro rfl; simp [wholeL] at h
theorem go_plain {x : Pt} {Ss : List (List Bs)} {P : List Bs} {q : Nat} (h : Al x Ss P q) (hm : Ss.length + 1 < 100000) (size : Nat) (p : Bs) :
    ((goD size x p).2 ≠ 0 ∧ ∃ q', q ≤ q' ∧ Gd Ss P q' (goD size x p).1.D.files) ∨
    ((goD size x p).2 = 0 ∧ ∃ Ss' P' q', Al (goD size x p).1 Ss' P' q' ∧ Ss'.flatten ++ P' = Ss.flatten ++ P ∧ cnt Ss q ≤ cnt Ss' q' ∧ Ss'.length ≤ Ss.length + 1) := by
  unfold goD
  by_cases hb : begP size x.length (8 + p.length) = true
  · rw [if_pos hb, h.la]
    have hP : P ≠ [] := by
      unfold begP at hb
      rw [h.le] at hb
      simp only [Bool.and_eq_true, decide_eq_true_eq] at hb
      exact whole_pos hb.1
    have hql := h.g.ql
    rcases next_plain h.g h.nn hP hm with ⟨h1, q', h2, h3⟩ | ⟨h1, h2, h3⟩
    · rw [if_neg h1]
      exact .inl ⟨h1, q', h2, h3⟩
    · rw [if_pos h1]
      refine .inr ⟨rfl, Ss ++ [P], [], 0, ⟨h2, h3, by simp, rfl⟩, by simp, ?_, by simp⟩
      unfold cnt; simp; omega
  · rw [if_neg hb]
    exact .inr ⟨rfl, Ss, P, q, h, rfl, Nat.le_refl _, by omega⟩
theorem put_plain {x : Pt} {Ss : List (List Bs)} {P : List Bs} {q : Nat} (h : Al x Ss P q) (hm : Ss.length + 1 < 100000) (size : Nat) (p : Bs) (hp : p.length ≤ 65536) :
    ∃ Ss' P' q', Gd Ss' P' q' (putD size x p).1.D.files ∧ cnt Ss q ≤ cnt Ss' q' ∧ Ss'.length ≤ Ss.length + 1 ∧ (Ss'.flatten ++ P' = Ss.flatten ++ P ∨ Ss'.flatten ++ P' = Ss.flatten ++ P ++ [p]) ∧
      ((putD size x p).2 = 0 → Al (putD size x p).1 Ss' P' q' ∧ Ss'.flatten ++ P' = Ss.flatten ++ P ++ [p]) := by
  rcases go_plain h hm size p with ⟨h1, q', h2, h3⟩ | ⟨h1, Ss1, P1, q1, ha, ht, hc, hl⟩
  · have e : putD size x p = goD size x p := by unfold putD; rw [if_neg h1]
    rw [e]
    exact ⟨Ss, P, q', h3, by unfold cnt; omega, by omega, .inl rfl, fun h => absurd h h1⟩
  · have e : putD size x p = (⟨(appendD (goD size x p).1.D (nameS (goD size x p).1.last) (recP p)).1, (goD size x p).1.last, (goD size x p).1.length + (8 + p.length)⟩, (appendD (goD size x p).1.D (nameS (goD size x p).1.last) (recP p)).2) := by unfold putD; rw [if_pos h1]
    rw [e]
    generalize (goD size x p).1 = y at ha
    have hla := ha.la
    rw [hla]
    have stay : ∀ z : Dk, z.files = y.D.files → ∀ c : Nat, c ≠ 0 → ∃ Ss' P' q', Gd Ss' P' q' z.files ∧ cnt Ss q ≤ cnt Ss' q' ∧ Ss'.length ≤ Ss.length + 1 ∧ (Ss'.flatten ++ P' = Ss.flatten ++ P ∨ Ss'.flatten ++ P' = Ss.flatten ++ P ++ [p]) ∧ (c = 0 → Al ⟨z, Ss1.length + 1, y.length + (8 + p.length)⟩ Ss' P' q' ∧ Ss'.flatten ++ P' = Ss.flatten ++ P ++ [p]) := fun z hz c hc0 => ⟨Ss1, P1, q1, by rw [hz]; exact ha.g, hc, hl, .inl ht, fun h => absurd h hc0⟩
    have ea := append_eq y.D (nameS (Ss1.length + 1)) (recP p) (named_seg _)
    by_cases hfull : (y.D.quota : Int) - usedD y.D.files < (recP p).length
    · rw [if_pos hfull] at ea
      rw [ea]
      exact stay y.D rfl 3 (by decide)
    rw [if_neg hfull] at ea
    obtain ⟨q2, hq2, hset⟩ : ∃ q2, q2 ≤ (P1 ++ [p]).length ∧ q1 ≤ q2 ∧ setF ⟨nameS (Ss1.length + 1), (match findF (nameS (Ss1.length + 1)) y.D.files with | some f => f.bs | none => []) ++ recP p, match findF (nameS (Ss1.length + 1)) y.D.files with | some f => f.sure | none => 0⟩ y.D.files = setF ⟨nameS (Ss1.length + 1), encL (P1 ++ [p]), wholeL ((P1 ++ [p]).take q2)⟩ y.D.files := by
      have hql := ha.g.ql
      rcases ha.g.las with ⟨e1, e2⟩ | ⟨f, e1, e2, e3⟩
      · subst e1
        rw [e2]
        exact ⟨0, Nat.zero_le _, by simpa using hql, by rw [List.nil_append, List.nil_append, enc_one]; rfl⟩
      · rw [e1]
        refine ⟨q1, by simp; omega, Nat.le_refl _, ?_⟩
        show setF ⟨_, f.bs ++ recP p, f.sure⟩ _ = _
        rw [e2, e3, enc_app, enc_one, List.take_append_of_le_length hql]
    replace ea := ea.trans (congrArg (actD y.D) hset.2)
    have hP' : ∀ r ∈ P1 ++ [p], r.length ≤ 65536 := fun r hr => by
      rcases List.mem_append.1 hr with hr | hr
      · exact ha.g.ph r hr
      · obtain rfl := List.mem_singleton.1 hr; exact hp
    have hg := ha.g.last hP' hq2
    rcases act_cases y.D (setF ⟨nameS (Ss1.length + 1), encL (P1 ++ [p]), wholeL ((P1 ++ [p]).take q2)⟩ y.D.files) with ⟨c1, d1⟩ | ⟨c1, d1⟩
    · rw [← ea] at c1 d1
      have ht2 : Ss1.flatten ++ (P1 ++ [p]) = Ss.flatten ++ P ++ [p] := by rw [← List.append_assoc, ht]
      refine ⟨Ss1, P1 ++ [p], q2, by dsimp only; rw [d1]; exact hg, ?_, hl, .inr ht2, fun _ => ⟨⟨by dsimp only; rw [d1]; exact hg, ?_, rfl, ?_⟩, ht2⟩⟩
      · have := hset.1; unfold cnt at hc ⊢; omega
      · dsimp only
        rw [d1, find_set, if_neg (show ¬ newB = nameS (Ss1.length + 1) from fun e => name_new _ e.symm)]; exact ha.nn
      · show y.length + (8 + p.length) = _
        rw [whole_app, ha.le]
    · rw [← ea] at c1 d1
      exact stay _ d1 _ (by rw [c1]; decide)
theorem puts_plain {size : Nat} (ps : List Bs) (hps : ∀ p ∈ ps, p.length ≤ 65536) : ∀ {x : Pt} {Ss : List (List Bs)} {P : List Bs} {q : Nat}, Al x Ss P q → Ss.length + ps.length < 100000 →
    ∃ Ss' P' q' k, Gd Ss' P' q' (putsD size x ps).1.D.files ∧ cnt Ss q ≤ cnt Ss' q' ∧ Ss'.length ≤ Ss.length + ps.length ∧ Ss'.flatten ++ P' = Ss.flatten ++ P ++ ps.take k ∧
      ((putsD size x ps).2 = 0 → Al (putsD size x ps).1 Ss' P' q' ∧ Ss'.flatten ++ P' = Ss.flatten ++ P ++ ps) := by
  induction ps with
  | nil => exact fun {x Ss P q} h hm => ⟨Ss, P, q, 0, h.g, Nat.le_refl _, Nat.le_refl _, by simp, fun _ => ⟨h, by simp⟩⟩
  | cons p ps ih =>
    intro x Ss P q h hm
    simp only [List.length_cons] at hm ⊢
    obtain ⟨S1, P1, q1, g1, c1, l1, t1, a1⟩ := put_plain h (by omega) size p (hps p (by simp))
    rw [putsD]
    by_cases h0 : (putD size x p).2 = 0
    · rw [if_pos h0]
      obtain ⟨a2, t2⟩ := a1 h0
      obtain ⟨S2, P2, q2, k, g3, c3, l3, t3, a3⟩ := ih (fun r hr => hps r (by simp [hr])) a2 (by omega)
      refine ⟨S2, P2, q2, k + 1, g3, by omega, by omega, by rw [t3, t2, List.take_succ_cons]; simp, fun h => ?_⟩
      obtain ⟨b1, b2⟩ := a3 h
      exact ⟨b1, by rw [b2, t2]; simp⟩
    · rw [if_neg h0]
      rcases t1 with t1 | t1
      · exact ⟨S1, P1, q1, 0, g1, c1, by omega, by rw [t1]; simp, fun h => absurd h h0⟩
      · exact ⟨S1, P1, q1, 1, g1, c1, by omega, by rw [t1]; simp, fun h => absurd h h0⟩
end Go.Proofs.YteamnhpplclmfaaGreatDoor
end
section
namespace Go.Proofs.YteamnhpplclmfaaGreatDoor
open Go.RowKit Go.Sx
set_option linter.unusedVariables false
def Calm (D : Dk) : Prop := D.gone = false ∧ D.armed = false
theorem act_calm {D : Dk} (h : Calm D) (fs : List Fe) : (actD D fs).2 = 0 ∧ (actD D fs).1.files = fs ∧ Calm (actD D fs).1 ∧ (actD D fs).1.quota = D.quota := by
  have e : stepD D = (true, { D with left := if D.armed then D.left - 1 else D.left, steps := D.steps + 1 }) := by
    unfold stepD; rw [h.1, h.2]; rfl
  unfold actD
  rw [e]
  exact ⟨rfl, rfl, h, rfl⟩
/-- the files of a store but for the last segment -/
structure Gb (Ss : List (List Bs)) (F : List Fe) : Prop where
  nd : Nms F
  m : Ss.length < 100000
  sh : ∀ s ∈ Ss, ∀ p ∈ s, p.length ≤ 65536
  ful : ∀ i (h : i < Ss.length), ∃ f, findF (nameS (i + 1)) F = some f ∧ f.bs = encL Ss[i] ∧ f.sure = f.bs.length
  man : if Ss.length = 0 then findF manB F = none else ∃ f, findF manB F = some f ∧ f.bs = recP (le4 (Ss.length + 1)) ∧ f.sure = f.bs.length
  oth : ∀ f ∈ F, f.name = manB ∨ f.name = newB ∨ ∃ i, 1 ≤ i ∧ i ≤ Ss.length + 1 ∧ f.name = nameS i
theorem Gd.base {Ss : List (List Bs)} {P : List Bs} {q : Nat} {F : List Fe} (h : Gd Ss P q F) : Gb Ss F := ⟨h.nd, h.m, h.sh, h.ful, h.man, h.oth⟩
theorem Gb.unnew {Ss : List (List Bs)} {F : List Fe} (h : Gb Ss F) : Gb Ss (delF newB F) := by
  have hn : ∀ a, findF (nameS a) (delF newB F) = findF (nameS a) F := fun a => by rw [find_del h.nd, if_neg (name_new a)]
  refine ⟨del_nd h.nd _, h.m, h.sh, fun i hi => by rw [hn]; exact h.ful i hi, ?_, fun f hf => h.oth f ((del_mem h.nd _ f).1 hf).1⟩
  have := h.man
  rw [find_del h.nd, if_neg (show manB ≠ newB from man_new)]; exact this
theorem Gb.set {Ss : List (List Bs)} {F : List Fe} (h : Gb Ss F) (bs : Bs) (s : Nat) : Gb Ss (setF ⟨nameS (Ss.length + 1), bs, s⟩ F) := by
  have hm := h.m
  refine ⟨set_nd h.nd _, h.m, h.sh, fun i hi => ?_, ?_, fun f hf => ?_⟩
  · rw [find_set, if_neg (name_ne (by omega) (by omega) (by omega))]; exact h.ful i hi
  · have := h.man
    rw [find_set, if_neg (show ¬ manB = nameS (Ss.length + 1) from fun e => name_man _ e.symm)]; exact this
  · rcases (set_mem h.nd _ f).1 hf with rfl | hf
    · exact .inr (.inr ⟨Ss.length + 1, by omega, Nat.le_refl _, rfl⟩)
    · exact h.oth f hf.1
theorem crash_full {k : Int} {f : Fe} (h : f.sure = f.bs.length) : (crashF k f).bs = f.bs ∧ (crashF k f).sure = f.bs.length := by
  unfold crashF
  rw [h, Nat.sub_self, Nat.min_zero, Nat.add_zero, List.take_length]
  exact ⟨rfl, rfl⟩
theorem Gb.crash {Ss : List (List Bs)} {F : List Fe} (h : Gb Ss F) (k : Int) : Gb Ss (F.map (crashF k)) := by
  refine ⟨?_, h.m, h.sh, fun i hi => ?_, ?_, fun f hf => ?_⟩
  · rw [Nms, List.map_map, show ((·.name) ∘ crashF k : Fe → List UInt8) = (·.name) from rfl]; exact h.nd
  · obtain ⟨f, e1, e2, e3⟩ := h.ful i hi
    obtain ⟨c1, c2⟩ := crash_full (k := k) e3
    exact ⟨crashF k f, by rw [find_crashF, e1]; rfl, by rw [c1, e2], by rw [c1, c2]⟩
  · have hm := h.man
    split
    · rename_i h0
      rw [if_pos h0] at hm
      rw [find_crashF, hm]; rfl
    · rename_i h0
      rw [if_neg h0] at hm
      obtain ⟨f, e1, e2, e3⟩ := hm
      obtain ⟨c1, c2⟩ := crash_full (k := k) e3
      exact ⟨crashF k f, by rw [find_crashF, e1]; rfl, by rw [c1, e2], by rw [c1, c2]⟩
  · obtain ⟨g, hg, rfl⟩ := List.mem_map.1 hf
    exact h.oth g hg
/-- the last segment behind a crash -/
def LastC (Ss : List (List Bs)) (P : List Bs) (q : Nat) (F : List Fe) : Prop := (P = [] ∧ findF (nameS (Ss.length + 1)) F = none) ∨ ∃ f n, findF (nameS (Ss.length + 1)) F = some f ∧ f.bs = (encL P).take n ∧ n ≤ (encL P).length ∧ wholeL (P.take q) ≤ n
theorem last_crash {Ss : List (List Bs)} {P : List Bs} {q : Nat} {F : List Fe} (h : Gd Ss P q F) (k : Int) : LastC Ss P q (F.map (crashF k)) := by
  rcases h.las with ⟨e1, e2⟩ | ⟨f, e1, e2, e3⟩
  · exact .inl ⟨e1, by rw [find_crashF, e2]; rfl⟩
  · have hw : wholeL (P.take q) ≤ f.bs.length := by
      have : wholeL P = wholeL (P.take q) + wholeL (P.drop q) := by rw [← whole_appL, List.take_append_drop]
      rw [e2, enc_len]; omega
    exact .inr ⟨crashF k f, f.sure + min k.toNat (f.bs.length - f.sure), by rw [find_crashF, e1]; rfl, by show f.bs.take _ = _; rw [e2], by rw [← e2]; omega, by omega⟩
theorem drops_none {b : Bs} {l : List Bs} (h : ∀ f ∈ l, (List.isPrefixOf [115, 101, 103, 45] f && decide (b < f)) = false) : ∀ x, dropsD b x l = x := by
  induction l with
  | nil => exact fun x => rfl
  | cons f l ih =>
    intro x
    rw [dropsD, h f (by simp), if_neg (by decide)]
    exact ih (fun g hg => h g (by simp [hg])) x
theorem Gb.stay {Ss : List (List Bs)} {F : List Fe} (h : Gb Ss F) {f : Bs} (hf : f ∈ sortT (F.map (·.name))) : (List.isPrefixOf [115, 101, 103, 45] f && decide (nameS (Ss.length + 1) < f)) = false := by
  have hm := h.m
  obtain ⟨g, hg, rfl⟩ := List.mem_map.1 ((sortT_perm _).mem_iff.1 hf)
  rcases h.oth g hg with e | e | ⟨i, h1, h2, e⟩
  · rw [e]; rfl
  · rw [e]; rfl
  · rw [e, pre_seg, Bool.true_and]
    refine decide_eq_false fun hlt => ?_
    rcases Nat.lt_or_ge i (Ss.length + 1) with h3 | h3
    · exact List.lt_irrefl _ (List.lt_trans hlt (name_lt (by omega) h3))
    · obtain rfl : i = Ss.length + 1 := by omega
      exact List.lt_irrefl _ hlt
end Go.Proofs.YteamnhpplclmfaaGreatDoor
end
section
namespace Go.Proofs.YteamnhpplclmfaaGreatDoor
open Go.RowKit Go.Sx
set_option linter.unusedVariables false
theorem cut_eq {D : Dk} {n : Bs} {f : Fe} (h : findF n D.files = some f) (z : Nat) (hz : z ≤ f.bs.length) : cutD D n (z : Nat) = actD D (setF ⟨n, f.bs.take z, min f.sure z⟩ D.files) := by
  unfold cutD; rw [h]; exact if_neg (by omega)
theorem whole_take (P : List Bs) (j : Nat) : wholeL P = wholeL (P.take j) + wholeL (P.drop j) := by rw [← whole_appL, List.take_append_drop]
theorem enc_take (P : List Bs) (j : Nat) : (encL P).take (wholeL (P.take j)) = encL (P.take j) := by
  have e : encL P = encL (P.take j) ++ encL (P.drop j) := by rw [← enc_app, List.take_append_drop]
  rw [e, ← enc_len, List.take_left]
/-- the last segment is read -/
theorem load_last_plain {x : Ld} {Ss : List (List Bs)} {P : List Bs} {q : Nat} (hb : Gb Ss x.D.files) (hl : LastC Ss P q x.D.files) (hP : ∀ p ∈ P, p.length ≤ 65536) (hq : q ≤ P.length) (hc : Calm x.D) (hnn : findF newB x.D.files = none) (h0 : x.length = 0) :
    ∃ j, q ≤ j ∧ j ≤ P.length ∧ (loadD x (Ss.length + 1) (Ss.length + 1)).2 = 0 ∧ (loadD x (Ss.length + 1) (Ss.length + 1)).1.pl = x.pl ++ P.take j ∧ (loadD x (Ss.length + 1) (Ss.length + 1)).1.length = wholeL (P.take j) ∧
      Gd Ss (P.take j) j (loadD x (Ss.length + 1) (Ss.length + 1)).1.D.files ∧ Calm (loadD x (Ss.length + 1) (Ss.length + 1)).1.D ∧ findF newB (loadD x (Ss.length + 1) (Ss.length + 1)).1.D.files = none ∧ (loadD x (Ss.length + 1) (Ss.length + 1)).1.D.quota = x.D.quota := by
  rcases hl with ⟨rfl, e2⟩ | ⟨f, n, e1, e2, e3, e4⟩
  · have e : loadD x (Ss.length + 1) (Ss.length + 1) = (x, 0) := by unfold loadD; rw [e2]; simp
    have hq0 : q = 0 := by simpa using hq
    rw [e]
    exact ⟨0, by omega, Nat.le_refl _, rfl, by simp, by simpa [wholeL] using h0, ⟨hb.nd, hb.m, hb.sh, by simp, hb.ful, Nat.zero_le _, .inl ⟨rfl, e2⟩, hb.man, hb.oth⟩, hc, hnn, rfl⟩
  · obtain ⟨j, j1, j2, j3, j4⟩ := recs_torn P hP n
    have hbl : f.bs.length = n := by rw [e2, List.length_take]; omega
    have hrec : recsP f.bs = P.take j := by rw [e2]; exact j2
    have hwh : wholeP f.bs = wholeL (P.take j) := by unfold wholeP; rw [hrec]
    obtain ⟨X, hX⟩ : ∃ X, X = thenD (if wholeP f.bs < f.bs.length then cutD x.D (nameS (Ss.length + 1)) (wholeP f.bs : Nat) else (x.D, 0)) (fun D => syncD D (nameS (Ss.length + 1))) := ⟨_, rfl⟩
    have e : loadD x (Ss.length + 1) (Ss.length + 1) = (⟨X.1, x.pl ++ recsP f.bs, wholeP f.bs⟩, X.2) := by
      unfold loadD
      rw [e1]
      dsimp only
      rw [if_neg (by rw [hc.1]; decide), if_neg (Nat.lt_irrefl _), hX]
    have key : X.2 = 0 ∧ X.1.files = setF ⟨nameS (Ss.length + 1), encL (P.take j), wholeL (P.take j)⟩ X.1.files ∧ Gb Ss X.1.files ∧ findF (nameS (Ss.length + 1)) X.1.files = some ⟨nameS (Ss.length + 1), encL (P.take j), wholeL (P.take j)⟩ ∧ Calm X.1 ∧ findF newB X.1.files = none ∧ X.1.quota = x.D.quota := by
      have hset : ∀ (F : List Fe) (f : Fe), findF f.name F = some f → F = setF f F := by
        intro F f
        induction F with
        | nil => intro h; cases h
        | cons g l ih =>
          intro h
          rw [findF] at h
          rw [setF]
          split at h
          · rename_i h1; rw [if_pos h1, Option.some.inj h]
          · rename_i h1; rw [if_neg h1, ← ih h]
      have hnw : ∀ (F : List Fe) b s, findF newB F = none → findF newB (setF ⟨nameS (Ss.length + 1), b, s⟩ F) = none := fun F b s h => by rw [find_set, if_neg (show ¬ newB = nameS (Ss.length + 1) from fun e => name_new _ e.symm)]; exact h
      by_cases hlt : wholeP f.bs < f.bs.length
      · rw [if_pos hlt] at hX
        have c1 := act_calm hc (setF ⟨nameS (Ss.length + 1), f.bs.take (wholeP f.bs), min f.sure (wholeP f.bs)⟩ x.D.files)
        rw [← cut_eq e1 _ (by omega)] at c1
        obtain ⟨a1, a2, a3, a4⟩ := c1
        rw [then_ok a1] at hX
        have ht : f.bs.take (wholeP f.bs) = encL (P.take j) := by
          rw [hwh, e2, List.take_take, Nat.min_eq_left j3, enc_take]
        rw [ht] at a2
        have hf2 : findF (nameS (Ss.length + 1)) (cutD x.D (nameS (Ss.length + 1)) (wholeP f.bs : Nat)).1.files = some ⟨nameS (Ss.length + 1), encL (P.take j), min f.sure (wholeP f.bs)⟩ := by rw [a2, find_set, if_pos rfl]
        have c2 := act_calm a3 (setF ⟨nameS (Ss.length + 1), encL (P.take j), (encL (P.take j)).length⟩ (cutD x.D (nameS (Ss.length + 1)) (wholeP f.bs : Nat)).1.files)
        rw [← sync_eq hf2, ← hX] at c2
        obtain ⟨b1, b2, b3, b4⟩ := c2
        rw [enc_len] at b2
        have hfn : findF (nameS (Ss.length + 1)) X.1.files = some ⟨nameS (Ss.length + 1), encL (P.take j), wholeL (P.take j)⟩ := by rw [b2, find_set, if_pos rfl]
        refine ⟨b1, hset _ _ hfn, by rw [b2, a2]; exact (hb.set _ _).set _ _, hfn, b3, by rw [b2, a2]; exact hnw _ _ _ (hnw _ _ _ hnn), by rw [b4, a4]⟩
      · rw [if_neg hlt] at hX
        have hfull : f.bs = encL (P.take j) := by
          have h1 : wholeL (P.take j) = n := by omega
          rw [e2, ← h1, enc_take]
        rw [then_ok rfl] at hX
        have c2 := act_calm hc (setF ⟨nameS (Ss.length + 1), f.bs, f.bs.length⟩ x.D.files)
        rw [← sync_eq e1, ← hX] at c2
        obtain ⟨b1, b2, b3, b4⟩ := c2
        rw [hfull, enc_len] at b2
        have hfn : findF (nameS (Ss.length + 1)) X.1.files = some ⟨nameS (Ss.length + 1), encL (P.take j), wholeL (P.take j)⟩ := by rw [b2, find_set, if_pos rfl]
        exact ⟨b1, hset _ _ hfn, by rw [b2]; exact hb.set _ _, hfn, b3, by rw [b2]; exact hnw _ _ _ hnn, b4⟩
    obtain ⟨k1, k2, k3, k4, k5, k6, k7⟩ := key
    rw [e, hrec, hwh]
    have htl : (P.take j).length = j := by rw [List.length_take]; omega
    refine ⟨j, j4 q hq e4, j1, k1, rfl, rfl, ⟨k3.nd, k3.m, k3.sh, fun p hp => hP p (List.mem_of_mem_take hp), k3.ful, by rw [htl]; exact Nat.le_refl _, .inr ⟨_, k4, rfl, by rw [List.take_take, Nat.min_self]⟩, k3.man, k3.oth⟩, k5, k6, k7⟩
/-- the segments from one on are read -/
theorem loads_plain {D : Dk} {Ss : List (List Bs)} (hb : Gb Ss D.files) (hc : Calm D) : ∀ (k n : Nat), n + k = Ss.length + 1 → 1 ≤ n → loadsD (k + 1) ⟨D, (Ss.take (n - 1)).flatten, 0⟩ (Ss.length + 1) n = loadsD 1 ⟨D, Ss.flatten, 0⟩ (Ss.length + 1) (Ss.length + 1) := by
  intro k
  induction k with
  | zero =>
    intro n h1 h2
    obtain rfl : n = Ss.length + 1 := by omega
    rw [Nat.add_sub_cancel, List.take_length]
  | succ k ih =>
    intro n h1 h2
    have hlt : n - 1 < Ss.length := by omega
    obtain ⟨f, e1, e2, e3⟩ := hb.ful (n - 1) hlt
    rw [show n - 1 + 1 = n by omega] at e1
    have hs := hb.sh Ss[n - 1] (List.getElem_mem hlt)
    have htk : (Ss.take n).flatten = (Ss.take (n - 1)).flatten ++ Ss[n - 1] := by
      have h3 := List.take_succ_eq_append_getElem hlt
      rw [show n - 1 + 1 = n by omega] at h3
      rw [h3, List.flatten_append, List.flatten_cons, List.flatten_nil, List.append_nil]
    have e : loadD ⟨D, (Ss.take (n - 1)).flatten, 0⟩ (Ss.length + 1) n = (⟨D, (Ss.take n).flatten, 0⟩, 0) := by
      unfold loadD
      rw [show (⟨D, (Ss.take (n - 1)).flatten, 0⟩ : Ld).D = D from rfl, e1]
      dsimp only
      rw [if_neg (by rw [hc.1]; decide), if_pos (by omega), e2, whole_enc _ hs, if_neg (Nat.lt_irrefl _), recs_all _ hs]
      rw [htk]
    rw [loadsD_step, e, if_pos rfl]
    have := ih (n + 1) (by omega) (by omega)
    rw [Nat.add_sub_cancel] at this
    exact this
/-- a disk that holds a store, behind a crash, is opened -/
theorem open_plain {D : Dk} {Ss : List (List Bs)} {P : List Bs} {q : Nat} (hg : Gd Ss P q D.files) (keep : Int) (size : Nat) :
    ∃ j, q ≤ j ∧ j ≤ P.length ∧ (openP (crashD D keep) size).code = 0 ∧ (openP (crashD D keep) size).S = ⟨size, Ss.flatten ++ P.take j, (Ss.flatten ++ P.take j).length, Ss.length + 1, wholeL (P.take j), 0⟩ ∧
      Gd Ss (P.take j) j (openP (crashD D keep) size).D.files ∧ Calm (openP (crashD D keep) size).D ∧ findF newB (openP (crashD D keep) size).D.files = none ∧ (openP (crashD D keep) size).D.quota = D.quota := by
  obtain ⟨C, hC⟩ : ∃ C, C = crashD D keep := ⟨_, rfl⟩
  rw [← hC]
  have hcalm : Calm C := by rw [hC]; exact ⟨rfl, rfl⟩
  have hb0 : Gb Ss C.files := by rw [hC]; exact hg.base.crash keep
  have hl0 : LastC Ss P q C.files := by rw [hC]; exact last_crash hg keep
  have hquo : C.quota = D.quota := by rw [hC]; rfl
  -- the file that was being made goes
  obtain ⟨D1, d1, d2, d3, d4, d5, d6⟩ : ∃ D1, dr1 C = (D1, 0) ∧ Gb Ss D1.files ∧ LastC Ss P q D1.files ∧ Calm D1 ∧ findF newB D1.files = none ∧ D1.quota = D.quota := by
    unfold dr1
    cases hh : hasD C newB with
    | false =>
      refine ⟨C, by simp, hb0, hl0, hcalm, ?_, hquo⟩
      unfold hasD at hh
      cases hf : findF newB C.files with
      | none => rfl
      | some f => rw [hf] at hh; cases hh
    | true =>
      obtain ⟨f, hf⟩ := has_read hh
      have c := act_calm hcalm (delF newB C.files)
      have e : dropD C newB = actD C (delF newB C.files) := by unfold dropD; rw [hf]
      rw [← e] at c
      obtain ⟨c1, c2, c3, c4⟩ := c
      refine ⟨(dropD C newB).1, by rw [if_pos rfl, ← c1], by rw [c2]; exact hb0.unnew, ?_, c3, by rw [c2, find_del hb0.nd, if_pos rfl], by rw [c4, hquo]⟩
      rw [c2]
      unfold LastC
      rw [find_del hb0.nd, if_neg (name_new _)]
      exact hl0
  have hm := hb0.m
  have hL : mfL (dr1 C) = Ss.length + 1 ∧ mfC (dr1 C) = 0 := by
    rw [d1]
    have hman := d2.man
    by_cases h0 : Ss.length = 0
    · rw [if_pos h0] at hman
      have hh : hasD D1 manB = false := by unfold hasD; rw [hman]; rfl
      exact ⟨by unfold mfL; rw [if_neg (by rw [hh]; simp), h0], by unfold mfC; rw [if_neg (by rw [hh]; simp)]⟩
    · rw [if_neg h0] at hman
      obtain ⟨f, e1, e2, e3⟩ := hman
      have hh : hasD D1 manB = true := by unfold hasD; rw [e1]; rfl
      have hr : readD D1 manB = (f.bs, 0) := by unfold readD; rw [if_neg (by rw [d4.1]; decide), e1]
      have ht : toldP f.bs = Ss.length + 1 := by rw [e2]; exact told_rec _ (by omega) (by omega)
      exact ⟨by unfold mfL; rw [if_pos ⟨hh, rfl⟩, hr, ht], by unfold mfC; rw [if_pos ⟨hh, rfl⟩, hr, ht, if_neg (by simp)]⟩
  obtain ⟨hL1, hL2⟩ := hL
  have hall : ldOf C = loadsD 1 ⟨D1, Ss.flatten, 0⟩ (Ss.length + 1) (Ss.length + 1) := by
    unfold ldOf ldAll
    rw [hL1, hL2, if_pos rfl, d1]
    exact loads_plain d2 d4 Ss.length 1 (by omega) (Nat.le_refl _)
  obtain ⟨j, j1, j2, a1, a2, a3, a4, a5, a6, a7⟩ := load_last_plain (x := ⟨D1, Ss.flatten, 0⟩) d2 d3 hg.ph hg.ql d4 d5 rfl
  have hone : loadsD 1 ⟨D1, Ss.flatten, 0⟩ (Ss.length + 1) (Ss.length + 1) = loadD ⟨D1, Ss.flatten, 0⟩ (Ss.length + 1) (Ss.length + 1) := by
    rw [loadsD_step, if_pos a1]
    exact Prod.ext rfl a1.symm
  rw [hone] at hall
  have hdr := drops_none (b := nameS (Ss.length + 1)) (l := sortT ((ldOf C).1.D.files.map (·.name))) (fun f hf => by rw [hall] at hf; exact a4.base.stay hf) ((ldOf C).1.D, (ldOf C).2)
  refine ⟨j, j1, j2, ?_⟩
  unfold openP
  rw [hL1, hdr, hall]
  refine ⟨a1, ?_, a4, a5, a6, by rw [a7]; exact d6⟩
  dsimp only
  rw [a2, a3]
end Go.Proofs.YteamnhpplclmfaaGreatDoor
end
section
namespace Go.Proofs.YteamnhpplclmfaaGreatDoor
open Go.RowKit Go.Sx
set_option linter.unusedVariables false
end Go.Proofs.YteamnhpplclmfaaGreatDoor
end
section
namespace Go.Proofs.YteamnhpplclmfaaGreatDoor
open Go.RowKit Go.Sx
set_option linter.unusedVariables false
theorem calm0 (q : Nat) : crashD ⟨0, 0, false, false, q, []⟩ 0 = ⟨0, 0, false, false, q, []⟩ := rfl
/-- an empty disk is opened -/
theorem open_zero (q size : Nat) : (openP ⟨0, 0, false, false, q, []⟩ size).code = 0 ∧ (openP ⟨0, 0, false, false, q, []⟩ size).S = ⟨size, [], 0, 1, 0, 0⟩ ∧ Gd [] [] 0 (openP ⟨0, 0, false, false, q, []⟩ size).D.files ∧ Calm (openP ⟨0, 0, false, false, q, []⟩ size).D ∧
    findF newB (openP ⟨0, 0, false, false, q, []⟩ size).D.files = none ∧ (openP ⟨0, 0, false, false, q, []⟩ size).D.quota = q := by
  obtain ⟨j, j1, j2, h1, h2, h3, h4, h5, h6⟩ := open_plain (D := ⟨0, 0, false, false, q, []⟩) Gd.nil 0 size
  rw [calm0] at h1 h2 h3 h4 h5 h6
  obtain rfl : j = 0 := by simpa using j2
  exact ⟨h1, h2, h3, h4, h5, h6⟩
/-- how a store stands behind so many of the payloads -/
structure Fu (ps : List Bs) (i : Nat) (S : Sr) (D : Dk) : Prop where
  k : ∃ k, k ≤ i ∧ S.pl = ps.take k ∧ (S.stuck = 0 → k = i)
  al : S.stuck = 0 → ∃ Ss P q, Al ⟨D, S.last, S.length⟩ Ss P q ∧ Ss.length ≤ i ∧ Calm D
  st : S.stuck = 0 ∨ S.stuck = 3
  la : S.last ≤ i + 1
  le : S.length ≤ 308 * i
theorem Fu.up {ps : List Bs} {i : Nat} {S : Sr} {D : Dk} (h : Fu ps i S D) (h3 : S.stuck = 3) : Fu ps (i + 1) S D := by
  obtain ⟨k, k1, k2, k3⟩ := h.k
  exact ⟨⟨k, by omega, k2, fun h0 => by omega⟩, fun h0 => by omega, h.st, by have := h.la; omega, by have := h.le; omega⟩
end Go.Proofs.YteamnhpplclmfaaGreatDoor
end
section
namespace Go.Proofs.YteamnhpplclmfaaGreatDoor
open Go.RowKit Go.Sx
set_option linter.unusedVariables false
end Go.Proofs.YteamnhpplclmfaaGreatDoor
end
section
namespace Go.Proofs.YteamnhpplclmfaaGreatDoor
open Go.RowKit Go.Sx
set_option linter.unusedVariables false
/-- payloads that came in -/
structure PayIn (w : World) (a : Option Addr) (c : Nat) (vs : List Value) (ps : List Bs) : Prop where
  row : Rd w (.slice a ps.length c) vs
  pls : Pls vs ps
  el : ∀ (i : Nat) v p, vs[i]? = some v → ps[i]? = some p → Rd w v (Lib.byteCells p)
  mx : ∀ p ∈ ps, p.length ≤ maxLen
  cap : ps.length ≤ c
theorem PayIn.old {B w : World} {L : List Ent} (hs : St [] B w L) {v : Value} {xs : List Value} (h : Rd B v xs) : Rd w v xs := h.below hs.below
/-- what is read of the world at first -/
theorem St.pushB {B w : World} {L : List Ent} (h : St [] B w L) {e : Ent} (ok : e.Ok w) (hW : ∀ k, ¬ e.W k) (hA : ∀ k, e.A k → k < B.heap.size) : St [] B w (L ++ [e]) := by
  refine ⟨h.os, h.tape, h.output, h.size, h.old, fun f hf => ?_, fun f hf k hk => ?_, ?_⟩
  · rcases List.mem_append.1 hf with hf | hf
    · exact h.ok f hf
    · obtain rfl := List.mem_singleton.1 hf; exact ok
  · rcases List.mem_append.1 hf with hf | hf
    · exact h.ownW f hf k hk
    · obtain rfl := List.mem_singleton.1 hf; exact absurd hk (hW k)
  · refine List.pairwise_append.2 ⟨h.apart, by simp, fun f hf g hg k => ?_⟩
    obtain rfl := List.mem_singleton.1 hg
    refine ⟨fun h1 h2 => ?_, fun h1 => absurd h1 (hW k)⟩
    have h3 := hA k h2
    rcases h.ownW f hf k h1 with h4 | ⟨_, h4, _⟩
    · omega
    · cases h4
theorem St.resR {M : Bks} {B w : World} {L : List Ent} (h : St M B w L) {k : Nat} {r : Res} (hk : L[k]? = some (rs r).rd) : r.p w := (rsOk r w).1 ((Ent.rdOk (rs r) w).1 (h.ok _ (List.mem_of_getElem? hk)))
abbrev rowB0 (B : World) : Nat → Prop := fun b => b < B.heap.size
theorem PayIn.push {B w : World} {L : List Ent} (hs : St [] B w L) {a : Option Addr} {c : Nat} {vs : List Value} {ps : List Bs} (h : PayIn B a c vs ps) : St [] B w (L ++ [rs (rdR (rowB0 B) (.slice a ps.length c) vs), rs (psR (rowB0 B) vs ps)]) := by
  have key : ∀ {v : Value} {xs : List Value}, Rd B v xs → RdB (rowB0 B) w v xs := fun {v xs} hp => rdb_of (hp.below hs.below) fun b o n c h hne => by rw [h] at hp; exact hp.lt0 hne
  have h1 := St.pushB hs (e := rs (rdR (rowB0 B) (.slice a ps.length c) vs)) ((rsOk _ _).2 ⟨key h.row, fun k hk => Nat.lt_of_lt_of_le hk hs.size⟩) (fun k hk => ((rsW _ _).1 hk).elim) (fun k hk => ((rsA _ _).1 hk).elim False.elim id)
  have h2 := St.pushB h1 (e := rs (psR (rowB0 B) vs ps)) ((rsOk _ _).2 ⟨fun i v q hv hq => key (h.el i v q hv hq), fun k hk => Nat.lt_of_lt_of_le hk hs.size⟩) (fun k hk => ((rsW _ _).1 hk).elim) (fun k hk => ((rsA _ _).1 hk).elim False.elim id)
  simpa using h2
end Go.Proofs.YteamnhpplclmfaaGreatDoor
end
section
namespace Go.Proofs.YteamnhpplclmfaaGreatDoor
open Go.ChangeShapes Go.WideShapes Go.ChangeAt Go.RowKit Go.Sx
set_option linter.unusedVariables false
theorem cellsI : Tryz.prog.cellsOf 3 = 1 := by kernel_rfl
theorem cellsB : Tryz.prog.cellsOf 22 = 1 := by kernel_rfl
theorem cellsBB : Tryz.prog.cellsOf 36 = 1 := by kernel_rfl
section
variable {H : Type} {enc : TypeId × Value → H} {w : World} {base : Nat} {spare : Nat → Bool} {held : Bool}
set_option maxRecDepth 100000 in
/-- bytes in a field -/
theorem open_rdc {fuel : Nat} {cs : List Value} {x : DataW H × List MemPlace} (h : DataW.trod enc Tryz.prog w base spare held fuel 22 cs = some x) : ∃ v bs, cs = [v] ∧ bs.length ≤ maxLen ∧ Rd w v (Lib.byteCells bs) := by
  rcases open_ints Tryz.underlying22 Tryz.underlying5 cellsU8 h with ⟨hcs, hx⟩ | ⟨a, len, cap, zs, hcs, _, hl, hm, hz, hx, hcell, hwz⟩
  · exact ⟨_, [], hcs, Nat.zero_le _, none, 0, rfl, fun h => absurd rfl h⟩
  · have hlz : len ≤ zs.length := by rw [hz]; split <;> omega
    obtain ⟨bs, hbs, hd⟩ := bytes_of (fun i => zs.getD i 0) len (fun i hi => by
      have hmem : zs.getD i 0 ∈ zs := by
        have : zs.getD i 0 = zs[i]'(by omega) := by simp [List.getD, show i < zs.length by omega]
        rw [this]; exact List.getElem_mem _
      have := bounds_u8 (hwz _ hmem)
      omega)
    refine ⟨_, bs, hcs, by omega, some a, cap, by rw [Lib.byteCells_length, hbs], fun hne => ?_⟩
    have hpos : 0 < len := by
      rcases Nat.eq_zero_or_pos len with h0 | h0
      · rw [h0] at hbs; rw [List.eq_nil_of_length_eq_zero hbs] at hne; exact absurd rfl hne
      · exact h0
    have h0 := hcell 0 (by omega)
    obtain ⟨b, o, sp⟩ := a
    obtain rfl : sp = none := by have := World.cell?_spot h0; simpa [Addr.add] using this
    refine ⟨b, o, rfl, World.block_lt_of_cell? w _ h0, fun j u hu => ?_⟩
    have hj : j < len := by have := (List.getElem?_eq_some_iff.1 hu).1; rw [Lib.byteCells_length] at this; omega
    rw [hd j hj] at hu
    rw [← addr_add, hcell j (by omega)]; exact hu
set_option maxRecDepth 100000 in
/-- rows of bytes in a field -/
theorem open_paysc {fuel : Nat} {cs : List Value} {x : DataW H × List MemPlace} (h : DataW.trod enc Tryz.prog w base spare held fuel 36 cs = some x) : ∃ a c vs ps, cs = [.slice a ps.length c] ∧ ps.length ≤ maxLen ∧ PayIn w a c vs ps := by
  rcases Go.Deep.open_slice1 Tryz.underlying36 cellsB h with ⟨hcs, _⟩ | ⟨a, len, cap, m, n, V, D, Pl, hcs, _, hl, hm, hmm, _, hx⟩
  · exact ⟨none, 0, [], [], hcs, Nat.zero_le _, ⟨none, 0, rfl, fun h => absurd rfl h⟩, ⟨rfl, (fun i v p hv => by simp at hv)⟩, (fun i v p hv => by simp at hv), (fun p hp => by simp at hp), Nat.le_refl _⟩
  · have hlm : len ≤ m := by rw [hmm]; split <;> omega
    have each : ∀ i, i < len → ∃ bs : Bs, w.cell? (a.add i) = some (V i) ∧ bs.length ≤ maxLen ∧ Rd w (V i) (Lib.byteCells bs) := by
      intro i hi
      obtain ⟨h1, h2⟩ := hx i (by omega)
      obtain ⟨v, bs, e, hb, hr⟩ := open_rdc h2
      obtain rfl : V i = v := by simpa using e
      exact ⟨bs, h1, hb, hr⟩
    obtain ⟨O, hO⟩ := Go.Deep.choose_lt each
    have hlen : ((List.range len).map O).length = len := by simp
    have hget : ∀ (i : Nat) v p, ((List.range len).map V)[i]? = some v → ((List.range len).map O)[i]? = some p → i < len ∧ v = V i ∧ p = O i := fun i v p hv hp => by
      have hi : i < len := by have := (List.getElem?_eq_some_iff.1 hv).1; simpa using this
      simp [hi] at hv hp
      exact ⟨hi, hv.symm, hp.symm⟩
    refine ⟨some a, cap, (List.range len).map V, (List.range len).map O, by rw [hlen]; exact hcs, by rw [hlen]; omega, ?_, ⟨by simp, fun i v p hv hp => ?_⟩, fun i v p hv hp => ?_, fun p hp => ?_, by rw [hlen]; exact hl⟩
    · refine ⟨some a, cap, by simp, fun hne => ?_⟩
      have h0 : 0 < len := by
        rcases Nat.eq_zero_or_pos len with h | h
        · rw [h] at hne; exact absurd rfl hne
        · exact h
      have hc0 := (hO 0 h0).1
      obtain ⟨b, o, sp⟩ := a
      obtain rfl : sp = none := by have := World.cell?_spot hc0; simpa [Addr.add] using this
      refine ⟨b, o, rfl, World.block_lt_of_cell? w _ hc0, fun j u hu => ?_⟩
      have hj : j < len := by have := (List.getElem?_eq_some_iff.1 hu).1; simpa using this
      simp [hj] at hu
      rw [← addr_add, (hO j hj).1, hu]
    · obtain ⟨hi, rfl, rfl⟩ := hget i v p hv hp
      obtain ⟨a', c', e, _⟩ := (hO i hi).2.2
      exact ⟨a', c', by rw [e, Lib.byteCells_length]⟩
    · obtain ⟨hi, rfl, rfl⟩ := hget i v p hv hp
      exact (hO i hi).2.2
    · obtain ⟨i, hi, rfl⟩ := List.mem_map.1 hp
      exact (hO i (by simpa using hi)).2.1
end
end Go.Proofs.YteamnhpplclmfaaGreatDoor
end
section
namespace Go.Proofs.YteamnhpplclmfaaGreatDoor
open Go.RowKit Go.Sx
set_option linter.unusedVariables false
/-- a bit through the register -/
def bitN (x b : Nat) : Nat := if x % 2 = b then x / 2 else (x / 2) ^^^ 3988292384
def regN (l : Bs) : Nat → Nat
  | 0 => 4294967295
  | i + 1 => bitN (regN l i) ((l.getD (i / 8) 0).toNat / 2 ^ (i % 8) % 2)
def rofN (l : Bs) : Nat := 4294967295 - regN l (8 * l.length)
theorem xor_mod2 (x y : Nat) : (x ^^^ y) % 2 = (x % 2 + y % 2) % 2 := by
  have h : (x ^^^ y) % 2 ^ 1 = x % 2 ^ 1 ^^^ y % 2 ^ 1 := Nat.xor_mod_two_pow
  rw [Nat.pow_one] at h
  rw [h]
  rcases Nat.mod_two_eq_zero_or_one x with h1 | h1 <;> rcases Nat.mod_two_eq_zero_or_one y with h2 | h2 <;> rw [h1, h2] <;> rfl
theorem xor_div2 (x y : Nat) : (x ^^^ y) / 2 = x / 2 ^^^ y / 2 := by
  have h : (x ^^^ y) / 2 ^ 1 = x / 2 ^ 1 ^^^ y / 2 ^ 1 := Nat.xor_div_two_pow
  rwa [Nat.pow_one] at h
theorem half_lin (x y : Nat) : halfN (x ^^^ y) = halfN x ^^^ halfN y := by
  have h1 := xor_mod2 x y
  have h2 := xor_div2 x y
  unfold halfN
  rw [h2]
  rcases Nat.mod_two_eq_zero_or_one x with e1 | e1 <;> rcases Nat.mod_two_eq_zero_or_one y with e2 | e2 <;> rw [e1, e2] at h1
  · rw [if_neg (by omega), if_neg (by omega), if_neg (by omega)]
  · rw [if_pos (by omega), if_neg (by omega), if_pos (by omega), Nat.xor_assoc]
  · rw [if_pos (by omega), if_pos (by omega), if_neg (by omega)]
    rw [Nat.xor_assoc, Nat.xor_comm (y / 2), ← Nat.xor_assoc]
  · rw [if_neg (by omega), if_pos (by omega), if_pos (by omega)]
    rw [Nat.xor_assoc, ← Nat.xor_assoc 3988292384, Nat.xor_comm 3988292384 (y / 2), Nat.xor_assoc (y / 2), Nat.xor_self, Nat.xor_zero]
theorem half_two (b : Nat) : halfN (2 * b) = b := by
  unfold halfN
  rw [if_neg (by omega)]
  omega
theorem bit_half (x b : Nat) (hb : b < 2) : bitN x b = halfN (x ^^^ b) := by
  have h1 := xor_mod2 x b
  have h2 := xor_div2 x b
  have h3 : b / 2 = 0 := by omega
  rw [h3, Nat.xor_zero] at h2
  unfold bitN halfN
  rw [h2]
  by_cases h : x % 2 = b
  · rw [if_pos h, if_neg (by omega)]
  · rw [if_neg h, if_pos (by omega)]
def halfs : Nat → Nat → Nat
  | 0, x => x
  | n + 1, x => halfs n (halfN x)
theorem halfs_lin (n : Nat) : ∀ x y, halfs n (x ^^^ y) = halfs n x ^^^ halfs n y := by
  induction n with
  | zero => exact fun x y => rfl
  | succ n ih => intro x y; rw [halfs, halfs, halfs, half_lin, ih]
theorem halfs_mul (n : Nat) : ∀ b, halfs n (2 ^ n * b) = b := by
  induction n with
  | zero => intro b; rw [halfs, Nat.pow_zero, Nat.one_mul]
  | succ n ih => intro b; rw [halfs, Nat.pow_succ, Nat.mul_comm (2 ^ n) 2, Nat.mul_assoc, half_two, ih]
theorem halfs_succ (n : Nat) : ∀ x, halfs (n + 1) x = halfN (halfs n x) := by
  induction n with
  | zero => exact fun x => rfl
  | succ n ih => intro x; rw [halfs, ih (halfN x), halfs]
/-- so many bits of a byte -/
def bitsN (x c : Nat) : Nat → Nat
  | 0 => x
  | i + 1 => bitN (bitsN x c i) (c / 2 ^ i % 2)
theorem low_bits (c i : Nat) : c % 2 ^ (i + 1) = c % 2 ^ i ^^^ 2 ^ i * (c / 2 ^ i % 2) := by
  have h1 : c % 2 ^ (i + 1) = c % 2 ^ i + 2 ^ i * (c / 2 ^ i % 2) := by rw [Nat.pow_succ, Nat.mod_mul]
  rw [h1, Nat.add_comm, Nat.two_pow_add_eq_or_of_lt (Nat.mod_lt _ (Nat.two_pow_pos i))]
  refine Nat.eq_of_testBit_eq fun k => ?_
  rw [Nat.testBit_or, Nat.testBit_xor, Nat.testBit_two_pow_mul, Nat.testBit_mod_two_pow]
  by_cases hk : k < i
  · have : ¬ k ≥ i := by omega
    simp [hk, this]
  · simp [hk]
theorem bits_half (x c : Nat) : ∀ i, bitsN x c i = halfs i (x ^^^ c % 2 ^ i) := by
  intro i
  induction i with
  | zero => rw [bitsN, halfs, Nat.pow_zero, Nat.mod_one, Nat.xor_zero]
  | succ i ih =>
    rw [bitsN, bit_half _ _ (Nat.mod_lt _ (by decide)), ih, low_bits, ← Nat.xor_assoc, halfs_succ, halfs_lin i (x ^^^ c % 2 ^ i), halfs_mul]
theorem four (y : Nat) : halfs 4 y = y / 16 ^^^ tabN (y % 16) := by
  have h : y = 2 ^ 4 * (y / 16) ^^^ y % 16 := by
    have h1 : 2 ^ 4 * (y / 16) + y % 16 = 2 ^ 4 * (y / 16) ||| y % 16 := Nat.two_pow_add_eq_or_of_lt (Nat.mod_lt _ (by decide)) _
    have h2 : y = 2 ^ 4 * (y / 16) + y % 16 := by omega
    refine Nat.eq_of_testBit_eq fun k => ?_
    rw [Nat.testBit_xor]
    conv => lhs; rw [h2, h1]
    rw [Nat.testBit_or, Nat.testBit_two_pow_mul, show y % 16 = y % 2 ^ 4 from rfl, Nat.testBit_mod_two_pow]
    by_cases hk : k < 4
    · have : ¬ k ≥ 4 := by omega
      simp [hk, this]
    · simp [hk]
  conv => lhs; rw [h]
  rw [halfs_lin, halfs_mul]
  rfl
theorem xor_div16 (x y : Nat) : (x ^^^ y) / 16 = x / 16 ^^^ y / 16 := Nat.xor_div_two_pow (n := 4)
theorem byte_bits (x : Nat) (c : UInt8) : bitsN x c.toNat 8 = byteN2 x c := by
  have hc : c.toNat < 256 := UInt8.toNat_lt c
  rw [bits_half, show c.toNat % 2 ^ 8 = c.toNat by omega, show halfs 8 (x ^^^ c.toNat) = halfs 4 (halfs 4 (x ^^^ c.toNat)) from rfl, four (x ^^^ c.toNat), xor_div16]
  unfold byteN2
  dsimp only
  have e : x / 16 ^^^ c.toNat / 16 ^^^ tabN ((x ^^^ c.toNat) % 16) = (x / 16 ^^^ tabN ((x ^^^ c.toNat) % 16)) ^^^ c.toNat / 16 := by
    rw [Nat.xor_assoc, Nat.xor_comm (c.toNat / 16), Nat.xor_assoc]
  rw [e, four, xor_div16, show c.toNat / 16 / 16 = 0 by omega, Nat.xor_zero]
theorem reg_bits (l : Bs) (k : Nat) : ∀ i, i ≤ 8 → regN l (8 * k + i) = bitsN (regN l (8 * k)) (l.getD k 0).toNat i := by
  intro i
  induction i with
  | zero => exact fun _ => rfl
  | succ i ih =>
    intro h
    rw [← Nat.add_assoc, regN, bitsN, ih (by omega), show (8 * k + i) / 8 = k by omega, show (8 * k + i) % 8 = i by omega]
theorem reg_byte (l : Bs) : ∀ k, k ≤ l.length → regN l (8 * k) = (l.take k).foldl byteN2 4294967295 := by
  intro k
  induction k with
  | zero => exact fun _ => rfl
  | succ k ih =>
    intro h
    have hk : k < l.length := by omega
    rw [show 8 * (k + 1) = 8 * k + 8 by omega, reg_bits l k 8 (Nat.le_refl _), byte_bits, ih (by omega), List.take_succ_eq_append_getElem hk, List.foldl_append]
    simp [List.getD, hk]
theorem not32 (x : Nat) (h : x < 4294967296) : 4294967295 ^^^ x = 4294967295 - x := by
  have h1 : (4294967295 - x) = 2 ^ 32 - (x + 1) := by omega
  refine Nat.eq_of_testBit_eq fun k => ?_
  rw [h1, Nat.testBit_two_pow_sub_succ (by omega), Nat.testBit_xor, show (4294967295 : Nat) = 2 ^ 32 - 1 by decide, Nat.testBit_two_pow_sub_one]
  by_cases hk : k < 32
  · simp [hk]
  · have : x.testBit k = false := Nat.testBit_lt_two_pow (Nat.lt_of_lt_of_le h (by show 2 ^ 32 ≤ 2 ^ k; exact Nat.pow_le_pow_right (by decide) (by omega)))
    simp [hk, this]
theorem rof_more (l : Bs) : rofN l = moreN 0 l := by
  unfold rofN moreN
  rw [reg_byte l _ (Nat.le_refl _), List.take_length, Nat.xor_zero, not32 _ (fold_lt l _ (by decide))]
theorem rof_two (a b : Bs) : rofN (a ++ b) = crcP [a, b] := by
  rw [rof_more]
  show moreN 0 (a ++ b) = moreN (moreN 0 a) b
  unfold moreN
  rw [← Nat.xor_assoc, Nat.xor_self, Nat.zero_xor, List.foldl_append]
end Go.Proofs.YteamnhpplclmfaaGreatDoor
end
section
namespace Go.Proofs.YteamnhpplclmfaaGreatDoor
open Go.RowKit Go.Sx
set_option linter.unusedVariables false
theorem bit_lt {x b : Nat} (h : x < 4294967296) : bitN x b < 4294967296 := by
  unfold bitN
  split
  · omega
  · exact Nat.xor_lt_two_pow (n := 32) (by omega) (by decide)
theorem reg_lt (l : Bs) : ∀ i, regN l i < 4294967296
  | 0 => by show (4294967295 : Nat) < 4294967296; decide
  | i + 1 => bit_lt (reg_lt l i)
set_option maxRecDepth 100000 in
set_option maxHeartbeats 1000000 in
theorem rof_any (v : Value) (l : Bs) (hm : l.length ≤ 16777216) (w : World) (hv : Rd w v (Lib.byteCells l)) : Calls Tryz.prog 117 ([v] : List Value).toArray w fun e w' => e = .returned (.int .u32 (rofN l : Nat)) ∧ Below w.heap.size w w' := by
  have hv0 := hv
  obtain ⟨a, cc, rfl, _⟩ := hv
  rw [Lib.byteCells_length] at hv0 ⊢
  refine enterV tab_ok Tryz.func117 rfl Tryz.ntmps117 rfl (St.start w) ?_
  refine lp tab_ok (fun i : Nat => i ≤ 8 * l.length) (fun i => ⟨[(0, .slice a l.length cc), (3, .int .u32 (regN l i : Nat)), (4, .int .i64 i)], [], []⟩) (fun i => 8 * l.length - i) 0 (Nat.zero_le _) ⟨⟨rfl, rfl, rfl, trivial⟩, .nil, rfl⟩ ?_
  intro i hi
  have hx := reg_lt l i
  refine .as ((8 * l.length : Nat) : Int) (by omega) (by simp only [mn]; omega) (by simp only [mx]; omega) ?_
  refine cd (fun h => ?_) (fun h => ?_)
  · have hlt : i < 8 * l.length := by omega
    have hk : i / 8 < l.length := by omega
    have hc0 : l[i / 8]? = some l[i / 8] := List.getElem?_eq_getElem hk
    have hgd : l.getD (i / 8) 0 = l[i / 8] := by simp [List.getD, hk]
    have hstep : regN l (i + 1) = bitN (regN l i) (l[i / 8].toNat / 2 ^ (i % 8) % 2) := by rw [regN, hgd]
    generalize l[i / 8] = c at hc0 hstep
    have hc := c.toNat_lt
    have hcell : (Lib.byteCells l)[i / 8]? = some (.int .u8 c.toNat) := by simp only [Lib.byteCells, List.getElem?_map, hc0]; rfl
    obtain ⟨b, o, rfl⟩ := hv0.addr (fun e => by rw [e] at hcell; cases hcell)
    refine ⟨by omega, by simp only [mx]; omega, by decide, ?_⟩
    refine ⟨by omega, by omega, ?_⟩
    refine .mk (.int .u8 c.toNat) (fun w' hs => (hv0.below hs.below).at hcell rfl) ?_
    refine ⟨by omega, by simp only [mx]; omega, by decide, ?_⟩
    refine .same (by simp only [mn]; omega) (by simp only [mx]; omega) ?_
    refine ⟨by omega, ?_⟩
    have hi8 : i % 8 < 8 := Nat.mod_lt _ (by decide)
    have hsh : ((c.toNat : Nat) : Int).fdiv (2 ^ (min ((i : Int) % 8).toNat IntKind.u8.bits)) = ((c.toNat / 2 ^ (i % 8) : Nat) : Int) := by
      rw [show ((i : Int) % 8) = ((i % 8 : Nat) : Int) by omega]
      exact shN (k := .u8) (i % 8) _ rfl (by show i % 8 ≤ 8; omega)
    have hd : c.toNat / 2 ^ (i % 8) ≤ c.toNat := Nat.div_le_self _ _
    obtain ⟨d, hde⟩ : ∃ d, d = c.toNat / 2 ^ (i % 8) := ⟨_, rfl⟩
    rw [← hde] at hsh hd hstep
    have h2 : bitI .and .u32 ((d : Nat) : Int) 1 = ((d % 2 : Nat) : Int) := by
      rw [show bitI .and .u32 ((d : Nat) : Int) 1 = ((d &&& 1 : Nat) : Int) from and32 _ 1 (by omega) (by decide), Nat.and_one_is_mod]
    have h3 : bitI .and .u32 ((regN l i : Nat) : Int) 1 = ((regN l i % 2 : Nat) : Int) := by
      rw [show bitI .and .u32 ((regN l i : Nat) : Int) 1 = ((regN l i &&& 1 : Nat) : Int) from and32 _ 1 hx (by decide), Nat.and_one_is_mod]
    refine .same (by rw [hsh]; simp only [mn]; omega) (by rw [hsh]; simp only [mx]; omega) ?_
    generalize regN l i = x at *
    by_cases hb : x % 2 = d % 2
    · refine cf (by rw [h3, hsh, h2, hb]; exact bne_self_eq_false _) ?_
      refine ⟨by omega, by simp only [mx]; omega, by decide, ?_⟩
      refine .as ((i + 1 : Nat) : Int) (by omega) (by simp only [mn]; omega) (by simp only [mx]; omega) ?_
      exact ⟨i + 1, by omega, by omega, ⟨⟨rfl, sl32 (by rw [hstep, bitN, if_pos hb]; omega), rfl, trivial⟩, .nil, rfl⟩⟩
    · refine ct (by rw [h3, hsh, h2, bne_iff_ne]; omega) ?_
      refine ⟨by omega, by simp only [mx]; omega, by decide, ?_⟩
      refine .as ((i + 1 : Nat) : Int) (by omega) (by simp only [mn]; omega) (by simp only [mx]; omega) ?_
      exact ⟨i + 1, by omega, by omega, ⟨⟨rfl, sl32 (by rw [hstep, bitN, if_neg hb]; exact xor32 (x / 2) 3988292384 (by omega) (by decide)), rfl, trivial⟩, .nil, rfl⟩⟩
  · obtain rfl : i = 8 * l.length := by omega
    refine .as ((rofN l : Nat) : Int) (by unfold rofN; omega) (by simp only [mn]; omega) (by unfold rofN; simp only [mx]; omega) ?_
    exact rt rfl
end Go.Proofs.YteamnhpplclmfaaGreatDoor
end
section
namespace Go.Proofs.YteamnhpplclmfaaGreatDoor
open Go.RowKit Go.Sx
set_option linter.unusedVariables false
theorem le4_take (n : Nat) : ∀ i, i < 4 → (le4 n).take (i + 1) = (le4 n).take i ++ [UInt8.ofNat (n / 256 ^ i % 256)] := by
  intro i hi
  match i, hi with
  | 0, _ => show [_] = [] ++ [_]; rw [Nat.pow_zero, Nat.div_one]; rfl
  | 1, _ => rfl
  | 2, _ => rfl
  | 3, _ => rfl
set_option maxRecDepth 100000 in
set_option maxHeartbeats 1000000 in
theorem rbytes_any (n : Nat) (hn : n < 4294967296) (w : World) : Calls Tryz.prog 81 ([.int .u32 n] : List Value).toArray w fun e w' => ∃ r, e = .returned (sv r 4) ∧ Rw 1 4 r (Lib.byteCells (le4 n)) ∧ Made w w' r (Lib.byteCells (le4 n)) 5 ∧ Below w.heap.size w w' := by
  refine (enter tab_ok Tryz.func81 rfl Tryz.ntmps81 rfl (St.start w) (R := fun v w' => ∃ r, v = sv r 4 ∧ Rw 1 4 r (Lib.byteCells (le4 n)) ∧ Made w w' r (Lib.byteCells (le4 n)) 5 ∧ Below w.heap.size w w') ?_).mono (fun e w' ⟨v, he, r, hv, h⟩ => ⟨r, by rw [he, hv], h⟩)
  refine lp tab_ok (fun y : Nat × Sx.Own => y.1 ≤ 4 ∧ Rw 1 y.1 y.2 (Lib.byteCells ((le4 n).take y.1))) (fun y => ⟨[(0, .int .u32 (n / 256 ^ y.1 : Nat)), (3, sv y.2 y.1), (4, .int .i64 y.1)], [se y.2 (Lib.byteCells ((le4 n).take y.1)) 5], []⟩) (fun y => 4 - y.1) (0, none) ⟨Nat.zero_le _, rfl, rfl⟩ ⟨⟨by rw [Nat.pow_zero, Nat.div_one]; rfl, rfl, rfl, trivial⟩, .pad .nil, rfl⟩ ?_
  rintro ⟨i, r⟩ ⟨hi, hR⟩
  dsimp only at hi hR ⊢
  obtain ⟨x, hx⟩ : ∃ x, x = n / 256 ^ i := ⟨_, rfl⟩
  rw [← hx]
  have hxn : x ≤ n := by rw [hx]; exact Nat.div_le_self _ _
  refine cd (fun h => ?_) (fun h => ?_)
  · have hlt : i < 4 := by omega
    refine ⟨by omega, by simp only [mx]; omega, by decide, ?_⟩
    refine .to ((x % 256 : Nat) : Int) (by show ((x : Int) % 256) % 256 = _; omega) ?_
    refine .mk _ _ (bs1 _) (fun b => ?_)
    refine ap (k := 0) (r := r) (xs := Lib.byteCells ((le4 n).take i)) (n := i) (m := 1) (news := [.int .u8 (x % 256 : Nat)]) tab_ok rfl info5 rfl rfl hR (srcE (C := ⟨Tryz.prog, tab, 18, [], w, none⟩) (e' := 5) (tx := 22) (z := 1) rfl tab_ok (src 1 rfl rfl) rfl (by simp [Value.oneCell'])) (by omega) (by unfold maxLen; omega) (fun r' hr' => ?_)
    have e1 : Lib.byteCells ((le4 n).take i) ++ [.int .u8 (x % 256 : Nat)] = Lib.byteCells ((le4 n).take (i + 1)) := by
      rw [le4_take n i hlt, Lib.byteCells_append, ← hx]
      congr 1
      simp [Lib.byteCells]
    rw [e1] at hr' ⊢
    refine ⟨by omega, by simp only [mx]; omega, by decide, ?_⟩
    refine .as ((i + 1 : Nat) : Int) (by omega) (by simp only [mn]; omega) (by simp only [mx]; omega) ?_
    exact ⟨(i + 1, r'), ⟨hlt, hr'⟩, by dsimp only; omega, ⟨⟨sl32 (by rw [Nat.pow_succ, ← Nat.div_div_eq_div_mul, ← hx]; omega), rfl, rfl, trivial⟩, .cons .nil, rfl⟩⟩
  · obtain rfl : i = 4 := by omega
    refine ⟨fun w1 hs => ⟨r, rfl, hR, made_of hs rfl 0 rfl, hs.below⟩⟩
set_option maxRecDepth 100000 in
set_option maxHeartbeats 1000000 in
theorem rput_any (v : Value) (p : Bs) (hp : p.length ≤ 65536) (w : World) (hv : Rd w v (Lib.byteCells p)) : Calls Tryz.prog 80 ([v] : List Value).toArray w fun e w' => ∃ r, e = .returned (.tuple #[sv r (recP p).length, .bool true]) ∧ Rw 1 (recP p).length r (Lib.byteCells (recP p)) ∧ Made w w' r (Lib.byteCells (recP p)) 5 ∧ Below w.heap.size w w' := by
  have hv0 := hv
  obtain ⟨a, c, rfl, _⟩ := hv
  rw [Lib.byteCells_length] at hv0 ⊢
  have hl4 : (le4 p.length).length = 4 := rfl
  have hlp := Lib.byteCells_length p
  refine (enter tab_ok Tryz.func80 rfl Tryz.ntmps80 rfl (St.start w) (R := fun v w' => ∃ r, v = .tuple #[sv r (recP p).length, .bool true] ∧ Rw 1 (recP p).length r (Lib.byteCells (recP p)) ∧ Made w w' r (Lib.byteCells (recP p)) 5 ∧ Below w.heap.size w w') ?_).mono (fun e w' ⟨v, he, r, hv, h⟩ => ⟨r, by rw [he, hv], h⟩)
  refine cf (decide_eq_false (by omega)) ?_
  refine .same (by simp only [mn]; omega) (by simp only [mx]; omega) ?_
  refine co (n := 4) (z := 1) (xs := Lib.byteCells (le4 p.length)) (e := 5) (fun w _ => rbytes_any p.length (by omega) w) (fun r1 hR1 => ?_)
  obtain ⟨a1, c1, hr1⟩ := sv_sl hR1
  refine .mk _ _ bsl0 (fun b2 => ?_)
  refine ap (k := 1) (r := some (b2, 0, [])) (xs := []) (n := 0) (m := 4) (news := Lib.byteCells (le4 p.length)) tab_ok rfl info5 rfl rfl ⟨rfl, Nat.le_refl _, by unfold maxLen; omega, rfl⟩ (fun w1 hs => (Rd.own hs 0 rfl hR1).src und22 (one8 _)) (by omega) (by unfold maxLen; omega) (fun r2 hR2 => ?_)
  rw [List.nil_append, Nat.zero_add] at hR2 ⊢
  refine ap (k := 1) (r := r2) (xs := Lib.byteCells (le4 p.length)) (n := 4) (m := p.length) (news := Lib.byteCells p) tab_ok rfl info5 rfl rfl hR2 (fun w1 hs => by have := (hv0.below hs.below).src und22 (one8 p); rwa [hlp] at this) (by omega) (by unfold maxLen; omega) (fun r3 hR3 => ?_)
  rw [← Lib.byteCells_append] at hR3 ⊢
  have e1 : 4 + p.length = (le4 p.length ++ p).length := by rw [List.length_append]; rfl
  rw [e1] at hR3 ⊢
  obtain ⟨a3, c3, hr3⟩ := sv_sl hR3
  refine cvs (fun w1 hs => rof_any (sv r3 (le4 p.length ++ p).length) (le4 p.length ++ p) (by rw [← e1]; omega) w1 (Rd.own hs 1 rfl hR3)) ?_
  rw [rof_two]
  refine co (n := 4) (z := 1) (xs := Lib.byteCells (le4 (crcP [le4 p.length, p]))) (e := 5) (fun w _ => rbytes_any (crcP [le4 p.length, p]) (crc_lt _) w) (fun r4 hR4 => ?_)
  refine ap (k := 0) (r := r1) (xs := Lib.byteCells (le4 p.length)) (n := 4) (m := 4) (news := Lib.byteCells (le4 (crcP [le4 p.length, p]))) tab_ok rfl info5 rfl rfl hR1 (fun w1 hs => (Rd.own hs 2 rfl hR4).src und22 (one8 _)) (by omega) (by unfold maxLen; omega) (fun r5 hR5 => ?_)
  rw [← Lib.byteCells_append] at hR5 ⊢
  refine ap (k := 0) (r := r5) (xs := Lib.byteCells (le4 p.length ++ le4 (crcP [le4 p.length, p]))) (n := 4 + 4) (m := p.length) (news := Lib.byteCells p) tab_ok rfl info5 rfl rfl hR5 (fun w1 hs => by have := (hv0.below hs.below).src und22 (one8 p); rwa [hlp] at this) (by omega) (by unfold maxLen; omega) (fun r6 hR6 => ?_)
  rw [← Lib.byteCells_append] at hR6 ⊢
  have e2 : (le4 p.length ++ le4 (crcP [le4 p.length, p])) ++ p = recP p := by unfold recP; rw [List.append_assoc]
  have e3 : 4 + 4 + p.length = (recP p).length := by rw [rec_len]
  rw [e2, e3] at hR6 ⊢
  refine ⟨fun w1 hs => ⟨r6, rfl, hR6, made_of hs rfl 0 rfl, hs.below⟩⟩
end Go.Proofs.YteamnhpplclmfaaGreatDoor
end
section
namespace Go.Proofs.YteamnhpplclmfaaGreatDoor
open Go.RowKit Go.Sx
set_option linter.unusedVariables false
/-- so many figures from the end -/
def nmC (n k : Nat) : Bs := (nameS 0).take (12 - k) ++ (nameS n).drop (12 - k)
def nmA (n k : Nat) : Array Value := (Lib.byteCells (nmC n k)).toArray
theorem nm_len (n k : Nat) (hk : k ≤ 8) : (nmA n k).size = 12 := by
  unfold nmA nmC
  rw [List.size_toArray, Lib.byteCells_length, List.length_append, List.length_take, List.length_drop]
  show min (12 - k) 12 + (12 - (12 - k)) = 12
  omega
theorem nm_set (n : Nat) : ∀ k, k < 8 → (nmA n k).setIfInBounds (11 - k) (.int .u8 ((48 + n / 10 ^ k % 10 : Nat) : Int)) = nmA n (k + 1) := by
  intro k hk
  have key : ∀ x : Nat, (UInt8.ofNat (48 + x % 10)).toNat = 48 + x % 10 := fun x => by rw [UInt8.toNat_ofNat']; omega
  rw [← key]
  match k, hk with
  | 0, _ => rw [Nat.pow_zero, Nat.div_one]; rfl
  | 1, _ => rfl
  | 2, _ => rfl
  | 3, _ => rfl
  | 4, _ => rfl
  | 5, _ => rfl
  | 6, _ => rfl
  | 7, _ => rfl
/-- a cell of a block whose end may be a string's -/
theorem s1z {C : Cx} {L : List Ent} (k : Nat) {b o lo hi : Nat} {c : Array Value} {t t' : TypeId} {v : Value} {next : List Ent → Prop} (hk : L[k]? = some ⟨b, some (.cells c t' (lo, hi)), false, none⟩) (ho : o < c.size) (hlo : o < lo) (go : next (L.set k ⟨b, some (.cells (c.setIfInBounds o v) t' (lo, hi)), false, none⟩))
    (hz : sizeIs C.P t 1 = true := by kernel_rfl) (h1 : v.oneCell' = true := by rfl) (hv : v.cells = #[v] := by rfl) : StP C t L b o v next := by
  refine ⟨_, fun w hs => ⟨w.setCell ⟨b, o, none⟩ v, ?_, ?_⟩, go⟩
  · have hst := run_storeCells_cells (P := C.P) b o [v] 0 w (fun j hj => by
      obtain rfl : j = 0 := by simpa using hj
      rw [hs.cell hk]; simp [ho]) (fun j hj => by
      obtain rfl : j = 0 := by simpa using hj
      have := hs.nth hk
      simp [World.frozen?, this]
      omega) (by simpa using h1)
    have h3 : (storeCells ⟨b, o, none⟩ [v]).run C.P w = .ok () (w.setCell ⟨b, o, none⟩ v) := hst
    simp [storeVar, Go.Sx.run_sizeOf (sizeIs_eq hz), hv, h3]
  · have hg := hs.nth hk
    refine hs.set hk (by simp [World.setCell]) ?_ (fun j _ hj => heap_setCell_other w ⟨b, o, none⟩ j v hj) rfl rfl rfl
    simp [World.setCell, Array.getElem?_modify, hg]
theorem bsN12 (w : World) : (Instr.buildSlice 22 12 #[(0, .int .u8 115), (1, .int .u8 101), (2, .int .u8 103), (3, .int .u8 45), (4, .int .u8 48), (5, .int .u8 48), (6, .int .u8 48), (7, .int .u8 48), (8, .int .u8 48), (9, .int .u8 48), (10, .int .u8 48), (11, .int .u8 48)]).run Tryz.prog w = .ok (.slice (some ⟨w.heap.size, 0, none⟩) 12 12) (w.alloc (.cells (nmA 0 0) 5)) := by
  obtain ⟨i, hi, hz, hs, hb⟩ := infoOf info5
  exact run_buildSlice w _ _ 12 _ _ i (.int .u8 0) und22 hi hz (by rw [hs]; decide) (by rw [hs]; decide) (by rw [hs]; kernel_rfl)
set_option maxRecDepth 100000 in
set_option maxHeartbeats 1000000 in
theorem rname_any (n : Nat) (hn : n ≤ 1000000000) (w : World) : Calls Tryz.prog 72 ([.int .i64 n] : List Value).toArray w fun e w' => e = .returned (VS (nameS n)) ∧ Below w.heap.size w w' := by
  refine enterV tab_ok Tryz.func72 rfl Tryz.ntmps72 rfl (St.start w) ?_
  refine .mk _ _ bsN12 (fun b => ?_)
  refine cvB 0 und22 (by kernel_rfl) rfl ?_
  refine lp tab_ok (fun k : Nat => k ≤ 8) (fun k => ⟨[(0, .int .i64 (n / 10 ^ k : Nat)), (3, .slice (some ⟨b, 0, none⟩) 12 12), (4, .int .i64 (11 - k : Nat))], [⟨b, some (.cells (nmA n k) 5 (12, 13)), false, none⟩], []⟩) (fun k => 8 - k) 0 (Nat.zero_le _) ⟨⟨by rw [Nat.pow_zero, Nat.div_one]; rfl, rfl, rfl, trivial⟩, .cons .nil, rfl⟩ ?_
  intro k hk
  have hlen := nm_len n k hk
  obtain ⟨x, hx⟩ : ∃ x, x = n / 10 ^ k := ⟨_, rfl⟩
  have hxn : x ≤ n := by rw [hx]; exact Nat.div_le_self _ _
  refine cd (fun h => ?_) (fun h => ?_)
  · have hlt : k < 8 := by omega
    rw [← hx]
    refine ⟨by omega, by simp only [mx]; omega, by decide, ?_⟩
    refine .as ((48 + x % 10 : Nat) : Int) (by omega) (by simp only [mn]; omega) (by simp only [mx]; omega) ?_
    refine .same (by simp only [mn]; omega) (by simp only [mx]; omega) ?_
    refine ⟨by omega, by omega, ?_⟩
    have eo : nad 0 (nmu ((11 - k : Nat) : Int).toNat 1) = 11 - k := by rw [nad_eq, nmu_eq]; simp
    refine s1z 0 rfl (by rw [eo, hlen]; omega) (by rw [eo]; omega) ?_
    refine ⟨by omega, by simp only [mx]; omega, by decide, ?_⟩
    refine .as ((11 - (k + 1) : Nat) : Int) (by omega) (by simp only [mn]; omega) (by simp only [mx]; omega) ?_
    exact ⟨k + 1, hlt, by omega, ⟨⟨congrArg (fun z : Int => some (Value.int .i64 z)) (by rw [Nat.pow_succ, ← Nat.div_div_eq_div_mul, ← hx]; omega), rfl, rfl, trivial⟩, by rw [eo, hx, nm_set n k hlt]; exact .cons .nil, rfl⟩⟩
  · obtain rfl : k = 8 := by omega
    refine semV (v := VS (nameS n)) (fun w' hs => rd_str (l := nameS n) ?_) ?_
    · exact Rd.ent hs 0 rfl (by rfl) (by rfl)
    exact rt rfl
end Go.Proofs.YteamnhpplclmfaaGreatDoor
end
section
namespace Go.Proofs.YteamnhpplclmfaaGreatDoor
open Go.RowKit Go.Sx
set_option linter.unusedVariables false
theorem le4_unle (l : Bs) (h : l.length = 4) : le4 (unle l) = l := by
  match l, h with
  | [a, b, c, d], _ =>
    have ha := a.toNat_lt
    have hb := b.toNat_lt
    have hc := c.toNat_lt
    have hd := d.toNat_lt
    have e : unle [a, b, c, d] = a.toNat + 256 * (b.toNat + 256 * (c.toNat + 256 * (d.toNat + 256 * 0))) := rfl
    rw [e]
    unfold le4
    have h1 : (a.toNat + 256 * (b.toNat + 256 * (c.toNat + 256 * (d.toNat + 256 * 0)))) % 256 = a.toNat := by omega
    have h2 : (a.toNat + 256 * (b.toNat + 256 * (c.toNat + 256 * (d.toNat + 256 * 0)))) / 256 % 256 = b.toNat := by omega
    have h3 : (a.toNat + 256 * (b.toNat + 256 * (c.toNat + 256 * (d.toNat + 256 * 0)))) / 65536 % 256 = c.toNat := by omega
    have h4 : (a.toNat + 256 * (b.toNat + 256 * (c.toNat + 256 * (d.toNat + 256 * 0)))) / 16777216 % 256 = d.toNat := by omega
    rw [h1, h2, h3, h4, UInt8.ofNat_toNat, UInt8.ofNat_toNat, UInt8.ofNat_toNat, UInt8.ofNat_toNat]
/-- the length that a row's beginning tells -/
def lenP (row : Bs) : Nat := unle (row.take 4)
def payP (row : Bs) : Bs := (row.drop 8).take (lenP row)
theorem first_no {row : Bs} (h : row.length < 8 ∨ 65536 < lenP row ∨ row.length < 8 + lenP row) : firstP row = none := by
  unfold lenP at h
  unfold firstP
  by_cases h1 : row.length < 8
  · rw [if_pos h1]
  · rw [if_neg h1, if_pos (by omega)]
theorem pay_len {row : Bs} (h : 8 + lenP row ≤ row.length) : (payP row).length = lenP row := by unfold payP; rw [List.length_take, List.length_drop]; omega
theorem first_iff {row : Bs} (h1 : lenP row ≤ 65536) (h2 : 8 + lenP row ≤ row.length) : firstP row = if recP (payP row) = row.take (8 + lenP row) then some (payP row) else none := by
  have hpl := pay_len h2
  by_cases he : recP (payP row) = row.take (8 + lenP row)
  · rw [if_pos he]
    have h := first_rec (payP row) (row.drop (8 + lenP row)) (by omega)
    rwa [he, List.take_append_drop] at h
  · rw [if_neg he]
    unfold firstP
    rw [if_neg (by omega), if_neg (by unfold lenP at h1 h2; omega)]
    split
    · rename_i h3
      refine absurd ?_ he
      have e3 : crcP [row.take 4, payP row] = unle ((row.drop 4).take 4) := h3.symm
      have l4 : (row.take 4).length = 4 := by rw [List.length_take]; omega
      have l5 : ((row.drop 4).take 4).length = 4 := by rw [List.length_take, List.length_drop]; omega
      have e4 : le4 (payP row).length = row.take 4 := by rw [hpl]; exact le4_unle _ l4
      unfold recP
      rw [e4, e3, le4_unle _ l5]
      unfold payP
      rw [show 8 + lenP row = 4 + (4 + lenP row) by omega, List.take_add, List.take_add, List.drop_drop]
    · rfl
end Go.Proofs.YteamnhpplclmfaaGreatDoor
end
section
namespace Go.Proofs.YteamnhpplclmfaaGreatDoor
open Go.RowKit Go.Sx
set_option linter.unusedVariables false
abbrev TRec : Nat := 120
/-- records' cells: where each begins, its payload -/
def recC : Nat → List Value → List Bs → List Value
  | o, v :: vs, p :: ps => .int .i64 (o : Nat) :: v :: recC (o + (8 + p.length)) vs ps
  | _, _, _ => []
theorem recC_app : ∀ (o : Nat) (vs : List Value) (ps : List Bs) (v : Value) (p : Bs), vs.length = ps.length → recC o (vs ++ [v]) (ps ++ [p]) = recC o vs ps ++ [.int .i64 ((o + wholeL ps : Nat) : Int), v]
  | o, [], [], v, p, _ => by simp [recC, wholeL]
  | o, u :: vs, q :: ps, v, p, h => by
    have := recC_app (o + (8 + q.length)) vs ps v p (by simpa using h)
    rw [List.cons_append, List.cons_append, recC, this, recC, whole_cons]
    rw [show o + (8 + q.length) + wholeL ps = o + (8 + q.length + wholeL ps) by omega]
    rfl
  | o, [], q :: ps, v, p, h => by simp at h
  | o, u :: vs, [], v, p, h => by simp at h
theorem whole_ge : ∀ ps : List Bs, 8 * ps.length ≤ wholeL ps
  | [] => Nat.le_refl _
  | p :: ps => by have := whole_ge ps; rw [whole_cons, List.length_cons]; omega
structure AllY where
  ps : List Bs
  r : Sx.Own
  vs : List Value
  rr : Nat → Prop
def allL (y : AllY) : List Ent := [se y.r (recC 0 y.vs y.ps) TRec, rs (bgR y.rr y.vs y.ps)]
structure AllOk (l : Bs) (y : AllY) : Prop where
  h : recsP l = y.ps ++ recsP (l.drop (wholeL y.ps))
  le : wholeL y.ps ≤ l.length
  row : Rw 2 y.ps.length y.r (recC 0 y.vs y.ps)
  pls : Pls y.vs y.ps
  adr : ∀ (i : Nat) v p, y.vs[i]? = some v → y.ps[i]? = some p → p ≠ [] → ∃ b o c, v = .slice (some ⟨b, o, none⟩) p.length c
theorem AllOk.fin {l : Bs} {y : AllY} (h : AllOk l y) (hf : firstP (l.drop (wholeL y.ps)) = none) : recsP l = y.ps := by rw [h.h, recs_none hf, List.append_nil]
theorem St.bg0 (w : World) : St [] w w [rs (bgR (fun _ => False) [] [])] := by
  refine St.from w [] _ (fun e he => ?_) (by simp)
  obtain rfl : e = rs (bgR (fun _ => False) [] []) := by simpa using he
  exact ⟨(rsOk _ _).2 ⟨fun i v p hv => by simp at hv, fun k hk => hk.elim⟩, fun k hk => ((rsW _ _).1 hk).elim⟩
/-- one row less is told of -/
theorem St.bgLess {M : Bks} {B w : World} {L : List Ent} (h : St M B w L) (k : Nat) {rr : Nat → Prop} {vs vs2 : List Value} {ps ps2 : List Bs} (hlen : vs.length = ps.length) (hk : L[k]? = some (rs (bgR rr (vs ++ vs2) (ps ++ ps2)))) : St M B w (L.set k (rs (bgR rr vs ps))) := by
  have h1 := (rsOk _ _).1 (h.ok _ (List.mem_of_getElem? hk))
  refine h.upd hk (Nat.le_refl _) ((rsOk _ _).2 ⟨fun i v q hv hq => h1.1 i v q ?_ ?_, h1.2⟩) (fun j _ _ => rfl) rfl rfl rfl (fun j hj => .inl ?_) (fun j hj => .inl ?_)
  · rw [List.getElem?_append_left (List.getElem?_eq_some_iff.1 hv).1]; exact hv
  · rw [List.getElem?_append_left (List.getElem?_eq_some_iff.1 hq).1]; exact hq
  · have h3 : (bgR rr vs ps).w j := (rsW _ _).1 hj
    exact (rsW _ _).2 h3
  · have h3 := (rsA (bgR rr vs ps) _).1 hj
    exact (rsA _ _).2 h3
theorem infoRec : (Tryz.prog.info? TRec).map (fun i => (i.zero, i.size, i.bytes)) = some (some (.agg #[.int .i64 0, .slice none 0 0]), 2, 32) := by kernel_rfl
theorem undRecs : Tryz.prog.underlying 117 = some (.slice TRec) := by kernel_rfl
theorem bsRec (z : Int) (a : Option Addr) (n c : Nat) (w : World) : (Instr.buildSlice 117 1 #[(0, .agg #[.int .i64 z, .slice a n c])]).run Tryz.prog w = .ok (.slice (some ⟨w.heap.size, 0, none⟩) 1 1) (w.alloc (.cells #[.int .i64 z, .slice a n c] TRec)) := by
  obtain ⟨i, hi, hz, hs, hb⟩ := infoOf infoRec
  exact run_buildSlice w _ _ 1 _ #[.int .i64 z, .slice a n c] i (.agg #[.int .i64 0, .slice none 0 0]) undRecs hi hz (by rw [hs]; decide) (by rw [hs]; decide) (by rw [hs]; kernel_rfl)
theorem unle_step (row : Bs) (h : 8 ≤ row.length) (k : Nat) (hk : k < 4) : unle ((row.take 4).drop (4 - (k + 1))) = (row.getD (3 - k) 0).toNat + 256 * unle ((row.take 4).drop (4 - k)) := by
  have hl : (row.take 4).length = 4 := by rw [List.length_take]; omega
  rw [List.drop_eq_getElem_cons (by omega : 4 - (k + 1) < (row.take 4).length), show 4 - (k + 1) + 1 = 4 - k by omega]
  show _ + 256 * _ = _
  rw [List.getElem_take]
  simp [List.getD, show 3 - k < row.length by omega, show 4 - (k + 1) = 3 - k by omega]
  rfl
set_option maxRecDepth 100000 in
set_option maxHeartbeats 2000000 in
/-- all records that bytes begin with -/
theorem rall_any (a : Option Addr) (l : Bs) (c : Nat) (hc : l.length ≤ c) (hm : l.length ≤ 16777216) (ha : ∀ x, a = some x → x.spot = none) (w : World) (hv : Rd w (.slice a l.length c) (Lib.byteCells l)) :
    Calls Tryz.prog 74 ([.slice a l.length c] : List Value).toArray w fun e w' => ∃ y : AllY, recsP l = y.ps ∧ AllOk l y ∧ e = .returned (sv y.r y.ps.length) ∧ St [] w w' (allL y) := by
  refine (enter tab_ok Tryz.func74 rfl Tryz.ntmps74 rfl (St.bg0 w) (R := fun v w' => ∃ y : AllY, recsP l = y.ps ∧ AllOk l y ∧ v = sv y.r y.ps.length ∧ St [] w w' (allL y)) ?_).mono (fun e w' ⟨v, he, y, h1, h2, h3, h4⟩ => ⟨y, h1, h2, by rw [he, h3], h4⟩)
  refine lp tab_ok (AllOk l) (fun y => ⟨[(0, .slice a l.length c), (3, sv y.r y.ps.length), (4, .int .i64 (wholeL y.ps : Nat))], allL y, []⟩) (fun y => l.length - wholeL y.ps) ⟨[], none, [], fun _ => False⟩ ⟨rfl, Nat.zero_le _, ⟨rfl, rfl⟩, ⟨rfl, fun i v p hv => by simp at hv⟩, fun i v p hv => by simp at hv⟩ ⟨⟨rfl, rfl, rfl, trivial⟩, .pad (.cons .nil), rfl⟩ ?_
  rintro ⟨ps, r, vs, rr⟩ hok
  have hle := hok.le
  have hrow := hok.row
  have hpl := hok.pls
  dsimp only at hle hrow hpl ⊢
  obtain ⟨o, ho⟩ : ∃ o, o = wholeL ps := ⟨_, rfl⟩
  rw [← ho] at hle ⊢
  have hrl : (l.drop o).length = l.length - o := List.length_drop
  have hdr : ∀ k, (l.drop o)[k]? = l[o + k]? := fun k => List.getElem?_drop
  refine .as ((o + 8 : Nat) : Int) (by omega) (by simp only [mn]; omega) (by simp only [mx]; omega) ?_
  by_cases h8 : l.length < o + 8
  · refine cf (decide_eq_false (by omega)) ?_
    refine ⟨fun w1 hs => ⟨⟨ps, r, vs, rr⟩, hok.fin (first_no (.inl (by show (l.drop (wholeL ps)).length < 8; rw [← ho, hrl]; omega))), hok, rfl, hs⟩⟩
  refine ct (decide_eq_true (by omega)) ?_
  refine lp tab_ok (fun k : Nat => k ≤ 4) (fun k => ⟨[(0, .slice a l.length c), (3, sv r ps.length), (4, .int .i64 o), (5, .int .i64 (unle (((l.drop o).take 4).drop (4 - k)) : Nat)), (6, .int .i64 (3 - (k : Int)))], allL ⟨ps, r, vs, rr⟩, []⟩) (fun k => 4 - k) 0 (Nat.zero_le _) ⟨⟨rfl, rfl, rfl, by rw [show ((l.drop o).take 4).drop (4 - 0) = [] by rw [List.drop_eq_nil_iff, List.length_take]; omega]; rfl, rfl, trivial⟩, Sub.refl _, rfl⟩ ?_
  intro k hk
  by_cases hlt : k < 4
  · refine ct (decide_eq_true (by omega)) ?_
    have hst := unle_step (l.drop o) (by omega) k hlt
    have hul := unle_lt (((l.drop o).take 4).drop (4 - k))
    have hll : (((l.drop o).take 4).drop (4 - k)).length = k := by rw [List.length_drop, List.length_take]; omega
    have hpw : 256 ^ (((l.drop o).take 4).drop (4 - k)).length ≤ 256 ^ 3 := Nat.pow_le_pow_right (by decide) (by omega)
    obtain ⟨u, hu⟩ : ∃ u, u = unle (((l.drop o).take 4).drop (4 - k)) := ⟨_, rfl⟩
    rw [← hu] at hst hul ⊢
    have hu3 : u < 16777216 := Nat.lt_of_lt_of_le hul hpw
    have hik : o + (3 - k) < l.length := by omega
    have hgd : (l.drop o).getD (3 - k) 0 = l[o + (3 - k)] := by rw [List.getD, hdr, List.getElem?_eq_getElem hik]; rfl
    rw [hgd] at hst
    have hcell : (Lib.byteCells l)[o + (3 - k)]? = some (.int .u8 (l[o + (3 - k)]).toNat) := by simp [Lib.byteCells, hik]
    have hcl := (l[o + (3 - k)]).toNat_lt
    generalize l[o + (3 - k)] = x at hst hcell hcl
    obtain ⟨b, q, rfl⟩ := hv.addr (fun e => by rw [e] at hcell; cases hcell)
    refine .as ((256 * u : Nat) : Int) (by omega) (by simp only [mn]; omega) (by simp only [mx]; omega) ?_
    refine .as ((o + (3 - k) : Nat) : Int) (by omega) (by simp only [mn]; omega) (by simp only [mx]; omega) ?_
    refine ⟨by omega, by omega, ?_⟩
    refine .mk (.int .u8 x.toNat) (fun w' hs => (hv.below hs.below).at hcell rfl) ?_
    refine .same (by simp only [mn]; omega) (by simp only [mx]; omega) ?_
    refine .as ((unle (((l.drop o).take 4).drop (4 - (k + 1))) : Nat) : Int) (by rw [hst]; omega) (by simp only [mn]; omega) (by rw [hst]; simp only [mx]; omega) ?_
    refine .as (3 - ((k + 1 : Nat) : Int)) (by omega) (by simp only [mn]; omega) (by simp only [mx]; omega) ?_
    exact ⟨k + 1, hlt, by omega, ⟨⟨rfl, rfl, rfl, rfl, rfl, trivial⟩, Sub.refl _, rfl⟩⟩
  obtain rfl : k = 4 := by omega
  refine cf rfl ?_
  have hlP : unle (((l.drop o).take 4).drop (4 - 4)) = lenP (l.drop o) := rfl
  rw [hlP]
  have hnl : lenP (l.drop o) < 4294967296 := by
    have := unle_lt ((l.drop o).take 4)
    rw [show ((l.drop o).take 4).length = 4 by rw [List.length_take]; omega] at this
    exact this
  have hno : ∀ h : (l.drop o).length < 8 ∨ 65536 < lenP (l.drop o) ∨ (l.drop o).length < 8 + lenP (l.drop o), firstP (l.drop (wholeL ps)) = none := fun h => by rw [← ho]; exact first_no h
  have hyes := fun h1 h2 => first_iff (row := l.drop o) h1 h2
  have hpy := fun h => pay_len (row := l.drop o) h
  have hpd : payP (l.drop o) = (l.drop (o + 8)).take (lenP (l.drop o)) := by unfold payP; rw [List.drop_drop]
  generalize hn : lenP (l.drop o) = n at hnl hno hyes hpy hpd ⊢
  by_cases h6 : 65536 < n
  · have e1 : decide ((n : Int) > 65536) = true := decide_eq_true (by omega)
    have e2 : (decide ((n : Int) > 65536) == false) = false := by rw [e1]; rfl
    repeat (first | refine cf e2 ?_ | refine ct e1 ?_ | refine cf rfl ?_ | refine ct rfl ?_)
    refine ⟨fun w1 hs => ⟨⟨ps, r, vs, rr⟩, hok.fin (hno (by omega)), hok, rfl, hs⟩⟩
  have e1 : decide ((n : Int) > 65536) = false := decide_eq_false (by omega)
  have e2 : (decide ((n : Int) > 65536) == false) = true := by rw [e1]; rfl
  iterate 2 refine ct e2 ?_
  refine .as ((o + 8 : Nat) : Int) (by omega) (by simp only [mn]; omega) (by simp only [mx]; omega) ?_
  iterate 2 refine ct e2 ?_
  refine .as ((o + 8 + n : Nat) : Int) (by omega) (by simp only [mn]; omega) (by simp only [mx]; omega) ?_
  iterate 3 refine ct e2 ?_
  refine cf e1 ?_
  by_cases hfit : l.length < o + 8 + n
  · refine ct (decide_eq_true (by omega)) ?_
    refine ⟨fun w1 hs => ⟨⟨ps, r, vs, rr⟩, hok.fin (hno (by omega)), hok, rfl, hs⟩⟩
  refine cf (decide_eq_false (by omega)) ?_
  have hfp := hyes (by omega) (by omega)
  have hpn : (payP (l.drop o)).length = n := hpy (by omega)
  generalize payP (l.drop o) = p at hpn hpd hfp
  have hlp := Lib.byteCells_length p
  have hps8 := whole_ge ps
  rw [← ho] at hps8
  have hlen : vs.length = ps.length := hpl.len
  refine .mk _ _ bsl0 (fun b => ?_)
  refine .as ((o + 8 : Nat) : Int) (by omega) (by simp only [mn]; omega) (by simp only [mx]; omega) ?_
  refine .as ((o + 8 : Nat) : Int) (by omega) (by simp only [mn]; omega) (by simp only [mx]; omega) ?_
  refine .as ((o + 8 + n : Nat) : Int) (by omega) (by simp only [mn]; omega) (by simp only [mx]; omega) ?_
  refine slMid (i := o + 8) (j := o + 8 + n) ha (by omega) (by omega) (fun a' hsp' hnn' hrd' => ?_)
  rw [show o + 8 + n - (o + 8) = n by omega] at hrd' ⊢
  refine ap (k := 2) (r := some (b, 0, [])) (xs := []) (n := 0) (m := n) (news := Lib.byteCells p) tab_ok rfl info5 rfl rfl ⟨rfl, Nat.le_refl _, by unfold maxLen; omega, rfl⟩ (fun w1 hs => by have := (hrd' w1 l (hv.below hs.below) (by omega)); rw [← hpd] at this; have := this.src und22 (one8 p); rwa [hlp, hpn] at this) (by omega) (by unfold maxLen; omega) (fun r1 hR1 => ?_)
  rw [List.nil_append, Nat.zero_add] at hR1 ⊢
  obtain ⟨a1, c1, hr1⟩ := sv_sl hR1
  rw [hr1]
  have hP2 : Pls (vs ++ [.slice a1 n c1]) (ps ++ [p]) := by
    refine ⟨by simp [hlen], fun i v q hv hq => ?_⟩
    by_cases hi : i < vs.length
    · rw [List.getElem?_append_left hi] at hv
      rw [List.getElem?_append_left (by omega)] at hq
      exact hpl.sh i v q hv hq
    · rw [List.getElem?_append_right (by omega)] at hv
      rw [List.getElem?_append_right (by omega), ← hlen] at hq
      obtain ⟨j, hj⟩ : ∃ j, j = i - vs.length := ⟨_, rfl⟩
      rw [← hj] at hv hq
      match j with
      | 0 =>
        obtain rfl := Option.some.inj hv
        obtain rfl := Option.some.inj hq
        exact ⟨a1, c1, by rw [hpn]⟩
      | j + 1 => simp at hv
  have hA2 : ∀ (i : Nat) v q, (vs ++ [Value.slice a1 n c1])[i]? = some v → (ps ++ [p])[i]? = some q → q ≠ [] → ∃ b o c, v = .slice (some ⟨b, o, none⟩) q.length c := fun i v q hv hq hne => by
    by_cases hi : i < vs.length
    · rw [List.getElem?_append_left hi] at hv
      rw [List.getElem?_append_left (by omega)] at hq
      exact hok.adr i v q hv hq hne
    · rw [List.getElem?_append_right (by omega)] at hv
      rw [List.getElem?_append_right (by omega), ← hlen] at hq
      obtain ⟨j, hj⟩ : ∃ j, j = i - vs.length := ⟨_, rfl⟩
      rw [← hj] at hv hq
      match j with
      | 0 =>
        obtain rfl := Option.some.inj hv
        obtain rfl := Option.some.inj hq
        cases r1 with
        | none =>
          have h0 : n = 0 := hR1.2
          exact absurd (List.eq_nil_of_length_eq_zero (by omega)) hne
        | some z =>
          obtain ⟨bz, cz, jz⟩ := z
          injection hr1 with h1 _ h3
          exact ⟨bz, 0, cz, by rw [← h1, ← h3, hpn]⟩
      | j + 1 => simp at hv
  have hg1 : (vs ++ [Value.slice a1 n c1])[ps.length]? = some (.slice a1 n c1) := by rw [← hlen]; simp
  have hg2 : (ps ++ [p])[ps.length]? = some p := by simp
  refine ⟨fun w0 hs0 => CallP.go (L := [se r (recC 0 vs ps) TRec, rs (bgR (fun i => rr i ∨ rowB r1 i) (vs ++ [.slice a1 n c1]) (ps ++ [p])), dead]) (C := ⟨Tryz.prog, tab, 77, [], w, none⟩) (coV (fun v => .tuple #[v, .bool true]) (fun w1 hs => rput_any (.slice a1 n c1) p (by omega) w1 ((hs.res (k := 1) rfl : (bgR (fun i => rr i ∨ rowB r1 i) (vs ++ [.slice a1 n c1]) (ps ++ [p])).p w1).1 ps.length _ _ hg1 hg2).rd) (fun r2 hR2 => ?_)) w0 (by
    have := ps_add hs0 (k := 1) (j := 2) (rr := rr) (vs := vs) (ps := ps) (r := r1) (p := p) (t := 5) rfl rfl (by decide) (by rw [hpn]; exact hR1) hlen
    rw [hpn, hr1] at this
    exact this)⟩
  have hmid : (l.drop o).take (8 + n) = (l.drop o).take (o + 8 + n - o) := by rw [show o + 8 + n - o = 8 + n by omega]
  by_cases hE : recP p = (l.drop o).take (8 + n)
  · have E1 : (!((ByteArray.mk (recP p).toArray).toList == (ByteArray.mk ((l.drop o).take (8 + n)).toArray).toList)) = false := by rw [list_beq, decide_eq_true hE]; rfl
    rw [if_pos hE] at hfp
    refine dr [] 99 (.t 0 (.t 2 (.t 3 (.t 4 (.t 5 (.t 6 (.t 7 (.t 8 (.b 1 9 (.n 9 (.n 10 .nil)) (.n 1 (.n 10 .nil))))))))))) tab_ok mixed_ok (by kernel_rfl) .nil ?_
    refine .as ((o + 8 : Nat) : Int) (by omega) (by simp only [mn]; omega) (by simp only [mx]; omega) ?_
    refine .as ((o + 8 + n : Nat) : Int) (by omega) (by simp only [mn]; omega) (by simp only [mx]; omega) ?_
    refine slMid (i := o) (j := o + 8 + n) ha (by omega) (by omega) (fun a2 hsp2 hnn2 hrd2 => ?_)
    have hrd3 : ∀ w1 : World, Below w.heap.size w w1 → Rd w1 (.slice a2 (o + 8 + n - o) (c - o)) (Lib.byteCells ((l.drop o).take (8 + n))) := fun w1 hb => by rw [hmid]; exact hrd2 w1 l (hv.below hb) (by omega)
    refine ⟨?_, ?_⟩
    · refine semV (fun w1 hs => rd_str (l := recP p) (Rd.own hs 3 rfl hR2)) ?_
      refine ⟨.nil, ?_⟩
      refine semV (fun w1 hs => rd_str (l := (l.drop o).take (8 + n)) (hrd3 w1 hs.below)) ?_
      iterate 2 refine ⟨.nil, ?_⟩
      refine cf E1 ?_
      refine bu (c := #[.int .i64 (o : Nat), .slice a1 n c1]) (by kernel_rfl) ?_
      refine .mk _ _ (bsRec _ _ _ _) (fun b4 => ?_)
      refine ap (k := 0) (z := 2) (r := r) (xs := recC 0 vs ps) (n := ps.length) (m := 1) (news := [.int .i64 (o : Nat), .slice a1 n c1]) tab_ok rfl infoRec rfl rfl hrow (srcE (C := ⟨Tryz.prog, tab, 77, [], w, none⟩) (e' := TRec) (tx := 117) (z := 2) rfl tab_ok (src 4 rfl rfl) rfl (by simp [Value.oneCell'])) (by omega) (by unfold maxLen; omega) (fun r3 hR3 => ?_)
      have e7 : recC 0 vs ps ++ [.int .i64 (o : Nat), .slice a1 n c1] = recC 0 (vs ++ [.slice a1 n c1]) (ps ++ [p]) := by rw [recC_app 0 vs ps _ p hlen, Nat.zero_add, ← ho]
      have e8 : ps.length + 1 = (ps ++ [p]).length := by simp
      rw [e7, e8] at hR3 ⊢
      have hwa := whole_app ps p
      rw [← ho, hpn] at hwa
      refine .as ((o + 8 : Nat) : Int) (by omega) (by simp only [mn]; omega) (by simp only [mx]; omega) ?_
      refine .as ((wholeL (ps ++ [p]) : Nat) : Int) (by omega) (by simp only [mn]; omega) (by simp only [mx]; omega) ?_
      exact ⟨⟨ps ++ [p], r3, vs ++ [Value.slice a1 n c1], fun i => rr i ∨ rowB r1 i⟩, ⟨(ahead hok.h.symm (by show firstP (l.drop (wholeL ps)) = some p; rw [← ho]; exact hfp)).symm, by dsimp only; omega, hR3, hP2, hA2⟩, by dsimp only; omega, ⟨⟨rfl, rfl, rfl, trivial⟩, .cons (.cons .nil), rfl⟩⟩
    · refine semV (fun w1 hs => rd_str (l := (l.drop o).take (8 + n)) (hrd3 w1 hs.below)) ?_
      refine ⟨.nil, ?_⟩
      refine semV (fun w1 hs => rd_str (l := recP p) (Rd.own hs 3 rfl hR2)) ?_
      iterate 2 refine ⟨.nil, ?_⟩
      refine cf E1 ?_
      refine bu (c := #[.int .i64 (o : Nat), .slice a1 n c1]) (by kernel_rfl) ?_
      refine .mk _ _ (bsRec _ _ _ _) (fun b4 => ?_)
      refine ap (k := 0) (z := 2) (r := r) (xs := recC 0 vs ps) (n := ps.length) (m := 1) (news := [.int .i64 (o : Nat), .slice a1 n c1]) tab_ok rfl infoRec rfl rfl hrow (srcE (C := ⟨Tryz.prog, tab, 77, [], w, none⟩) (e' := TRec) (tx := 117) (z := 2) rfl tab_ok (src 4 rfl rfl) rfl (by simp [Value.oneCell'])) (by omega) (by unfold maxLen; omega) (fun r3 hR3 => ?_)
      have e7 : recC 0 vs ps ++ [.int .i64 (o : Nat), .slice a1 n c1] = recC 0 (vs ++ [.slice a1 n c1]) (ps ++ [p]) := by rw [recC_app 0 vs ps _ p hlen, Nat.zero_add, ← ho]
      have e8 : ps.length + 1 = (ps ++ [p]).length := by simp
      rw [e7, e8] at hR3 ⊢
      have hwa := whole_app ps p
      rw [← ho, hpn] at hwa
      refine .as ((o + 8 : Nat) : Int) (by omega) (by simp only [mn]; omega) (by simp only [mx]; omega) ?_
      refine .as ((wholeL (ps ++ [p]) : Nat) : Int) (by omega) (by simp only [mn]; omega) (by simp only [mx]; omega) ?_
      exact ⟨⟨ps ++ [p], r3, vs ++ [Value.slice a1 n c1], fun i => rr i ∨ rowB r1 i⟩, ⟨(ahead hok.h.symm (by show firstP (l.drop (wholeL ps)) = some p; rw [← ho]; exact hfp)).symm, by dsimp only; omega, hR3, hP2, hA2⟩, by dsimp only; omega, ⟨⟨rfl, rfl, rfl, trivial⟩, .cons (.cons .nil), rfl⟩⟩
  · have E1 : (!((ByteArray.mk (recP p).toArray).toList == (ByteArray.mk ((l.drop o).take (8 + n)).toArray).toList)) = true := by rw [list_beq, decide_eq_false hE]; rfl
    rw [if_neg hE] at hfp
    refine dr [] 99 (.t 0 (.t 2 (.t 3 (.t 4 (.t 5 (.t 6 (.t 7 (.t 8 (.b 1 9 (.n 9 (.n 10 .nil)) (.n 1 (.n 10 .nil))))))))))) tab_ok mixed_ok (by kernel_rfl) .nil ?_
    refine .as ((o + 8 : Nat) : Int) (by omega) (by simp only [mn]; omega) (by simp only [mx]; omega) ?_
    refine .as ((o + 8 + n : Nat) : Int) (by omega) (by simp only [mn]; omega) (by simp only [mx]; omega) ?_
    refine slMid (i := o) (j := o + 8 + n) ha (by omega) (by omega) (fun a2 hsp2 hnn2 hrd2 => ?_)
    have hrd3 : ∀ w1 : World, Below w.heap.size w w1 → Rd w1 (.slice a2 (o + 8 + n - o) (c - o)) (Lib.byteCells ((l.drop o).take (8 + n))) := fun w1 hb => by rw [hmid]; exact hrd2 w1 l (hv.below hb) (by omega)
    refine ⟨?_, ?_⟩
    · refine semV (fun w1 hs => rd_str (l := recP p) (Rd.own hs 3 rfl hR2)) ?_
      refine ⟨.nil, ?_⟩
      refine semV (fun w1 hs => rd_str (l := (l.drop o).take (8 + n)) (hrd3 w1 hs.below)) ?_
      iterate 2 refine ⟨.nil, ?_⟩
      refine ct E1 ?_
      refine ⟨fun w1 hs => ⟨⟨ps, r, vs, fun i => rr i ∨ rowB r1 i⟩, hok.fin (by show firstP (l.drop (wholeL ps)) = none; rw [← ho]; exact hfp), ⟨hok.h, hok.le, hok.row, hok.pls, hok.adr⟩, rfl, (St.bgLess hs 1 hlen rfl).sub (.cons (.cons .nil))⟩⟩
    · refine semV (fun w1 hs => rd_str (l := (l.drop o).take (8 + n)) (hrd3 w1 hs.below)) ?_
      refine ⟨.nil, ?_⟩
      refine semV (fun w1 hs => rd_str (l := recP p) (Rd.own hs 3 rfl hR2)) ?_
      iterate 2 refine ⟨.nil, ?_⟩
      refine ct E1 ?_
      refine ⟨fun w1 hs => ⟨⟨ps, r, vs, fun i => rr i ∨ rowB r1 i⟩, hok.fin (by show firstP (l.drop (wholeL ps)) = none; rw [← ho]; exact hfp), ⟨hok.h, hok.le, hok.row, hok.pls, hok.adr⟩, rfl, (St.bgLess hs 1 hlen rfl).sub (.cons (.cons .nil))⟩⟩
end Go.Proofs.YteamnhpplclmfaaGreatDoor
end
section
namespace Go.Proofs.YteamnhpplclmfaaGreatDoor
open Go.RowKit Go.Sx
set_option linter.unusedVariables false
/-- a call that makes several things -/
theorem cMs {C : Cx} {L : List Ent} {g : FuncId} {vs : List Value} {α : Type} {Φ : α → Prop} {v : α → Value} {es : α → List Ent} {next : Value → List Ent → Prop}
    (h : ∀ w, St C.M C.B w L → Calls C.P g vs.toArray w fun e w' => ∃ x, Φ x ∧ e = .returned (v x) ∧ St [] w w' (es x)) (hA : ∀ x, Φ x → ∀ e ∈ es x, ∀ k, e.A k → e.W k)
    (go : ∀ x, Φ x → next (v x) (L ++ es x)) : CallP C g vs L next := by
  refine ⟨fun w hs => (h w hs).mono fun e w' ⟨x, hx, he, h1⟩ => ⟨_, _, he, ?_, go x hx⟩⟩
  have hW : ∀ e ∈ es x, ∀ k, e.W k → w.heap.size ≤ k := fun e he k hk => by
    rcases h1.ownW e he k hk with h4 | ⟨_, h4, _⟩
    · exact h4
    · cases h4
  have h2 : St C.M C.B w' (L ++ [rs (mres (es x))]) := hs.push h1.below ((rsOk _ _).2 ⟨h1.ok, h1.apart⟩) (fun k hk => by
    obtain ⟨e, he, hk⟩ := (mresW _ _).1 hk
    exact hW e he k hk) (fun k hk => by
    obtain ⟨e, he, hk⟩ := (mresA _ _).1 hk
    exact .inl (hW e he k (hA x hx e he k hk)))
  have h3 : St C.M C.B w' (L ++ es x ++ []) := St.unpack (X := L) (Y := []) (by simpa using h2)
  simpa using h3
theorem allL_A {y : AllY} : ∀ e ∈ allL y, ∀ k, e.A k → e.W k := by
  intro e he k hk
  simp only [allL, List.mem_cons, List.not_mem_nil, or_false] at he
  rcases he with rfl | rfl
  · exact Classical.byContradiction fun h => se_A (p := fun _ => False) k hk h
  · exact Classical.byContradiction fun h => bg_A (p := fun _ => False) k hk h
theorem recC_at : ∀ (o : Nat) (vs : List Value) (ps : List Bs) (i : Nat) (v : Value), vs.length = ps.length → vs[i]? = some v → (recC o vs ps)[2 * i]? = some (.int .i64 ((o + wholeL (ps.take i) : Nat) : Int)) ∧ (recC o vs ps)[2 * i + 1]? = some v
  | o, [], [], i, v, _, hv => by simp at hv
  | o, u :: vs, q :: ps, 0, v, h, hv => by
    obtain rfl := Option.some.inj hv
    exact ⟨by rw [recC]; rfl, by rw [recC]; rfl⟩
  | o, u :: vs, q :: ps, i + 1, v, h, hv => by
    have := recC_at (o + (8 + q.length)) vs ps i v (by simpa using h) (by simpa using hv)
    rw [recC, List.take_succ_cons, whole_cons]
    rw [show 2 * (i + 1) = 2 * i + 1 + 1 by omega, List.getElem?_cons_succ, List.getElem?_cons_succ, List.getElem?_cons_succ, List.getElem?_cons_succ, show o + (8 + q.length + wholeL (ps.take i)) = o + (8 + q.length) + wholeL (ps.take i) by omega]
    exact this
  | o, [], q :: ps, i, v, h, hv => by simp at h
  | o, u :: vs, [], i, v, h, hv => by simp at h
set_option maxRecDepth 100000 in
set_option maxHeartbeats 1000000 in
/-- how far bytes are whole -/
theorem rwhole_any (a : Option Addr) (l : Bs) (c : Nat) (hc : l.length ≤ c) (hm : l.length ≤ 16777216) (ha : ∀ x, a = some x → x.spot = none) (w : World) (hv : Rd w (.slice a l.length c) (Lib.byteCells l)) :
    Calls Tryz.prog 73 ([.slice a l.length c] : List Value).toArray w fun e w' => e = .returned (.int .i64 (wholeP l : Nat)) ∧ Below w.heap.size w w' := by
  refine enterV tab_ok Tryz.func73 rfl Tryz.ntmps73 rfl (St.start w) ?_
  refine cMs (α := AllY) (Φ := fun y => recsP l = y.ps ∧ AllOk l y) (v := fun y => sv y.r y.ps.length) (es := allL) (fun w1 hs => (rall_any a l c hc hm ha w1 (hv.below hs.below)).mono fun e w' ⟨y, h1, h2, h3, h4⟩ => ⟨y, ⟨h1, h2⟩, h3, h4⟩) (fun _ _ => allL_A) (fun y hy => ?_)
  obtain ⟨ps, r, vs, rr⟩ := y
  obtain ⟨hps, hok⟩ := hy
  dsimp only at hps ⊢
  have hrow := hok.row
  have hpl := hok.pls
  have hle := hok.le
  dsimp only at hrow hpl hle
  have hlen : vs.length = ps.length := hpl.len
  have h8 := whole_ge ps
  obtain ⟨va, vc, hva⟩ := sv_sl hrow
  rw [hva]
  refine lp tab_ok (fun i : Nat => i ≤ ps.length) (fun i => ⟨[(3, .int .i64 (wholeL (ps.take i) : Nat)), (4, .slice va ps.length vc), (5, .int .i64 i)], allL ⟨ps, r, vs, rr⟩, []⟩) (fun i => ps.length - i) 0 (Nat.zero_le _) ⟨⟨rfl, rfl, rfl, trivial⟩, Sub.refl _, rfl⟩ ?_
  intro i hi
  refine cd (fun h => ?_) (fun h => ?_)
  · have hlt : i < ps.length := by omega
    have hvi : vs[i]? = some vs[i] := by simp [hlen, hlt]
    obtain ⟨pa, pc, hpv⟩ := hpl.at (i := i) (p := ps[i]) (by simp [hlt])
    obtain ⟨c1, c2⟩ := recC_at 0 vs ps i _ hlen hpv
    rw [Nat.zero_add] at c1
    have htk : wholeL (ps.take (i + 1)) = wholeL (ps.take i) + (8 + ps[i].length) := by rw [List.take_succ_eq_append_getElem hlt, whole_app]
    have hmx : wholeL (ps.take (i + 1)) ≤ wholeL ps := by
      have := whole_take ps (i + 1); omega
    cases r with
    | none =>
      have : ps.length = 0 := hrow.2
      omega
    | some q =>
    obtain ⟨b, cap, jj⟩ := q
    injection hva with h1 _ _
    subst h1
    have hcl : ∀ (j : Nat) (u : Value), (recC 0 vs ps)[j]? = some u → (recC 0 vs ps ++ jj).toArray[j]? = some u := fun j u hu => by
      rw [List.getElem?_toArray, List.getElem?_append_left (List.getElem?_eq_some_iff.1 hu).1]; exact hu
    have k1 := hcl (2 * i) _ c1
    have k2 := hcl (2 * i + 1) _ c2
    refine dr [cl b (recC 0 vs ps ++ jj).toArray TRec] 99 (.t 0 (.t 1 (.t 2 (.t 3 (.t 4 (.t 5 (.t 6 (.t 7 (.t 8 (.t 9 (.t 10 (.t 11 (.t 12 (.n 13 .nil)))))))))))))) tab_ok mixed_ok (by kernel_rfl) (.cons .nil) ?_
    refine ⟨by omega, by omega, ?_⟩
    refine ld1 0 rfl (v := .int .i64 (wholeL (ps.take i) : Nat)) (by simp only [nad_eq, nmu_eq, Int.toNat_natCast]; rw [show 0 + i * 2 = 2 * i by omega]; exact k1) ?_
    refine .as ((wholeL (ps.take i) + 8 : Nat) : Int) (by omega) (by simp only [mn]; omega) (by simp only [mx]; omega) ?_
    refine ⟨by omega, by omega, ?_⟩
    refine ld1 0 rfl (v := .slice pa ps[i].length pc) (by simp only [nad_eq, nmu_eq, Int.toNat_natCast]; rw [show 0 + i * 2 + 1 = 2 * i + 1 by omega]; exact k2) ?_
    refine .as ((wholeL (ps.take (i + 1)) : Nat) : Int) (by omega) (by simp only [mn]; omega) (by simp only [mx]; omega) ?_
    refine ⟨.cons .nil, ?_⟩
    refine .as ((i + 1 : Nat) : Int) (by omega) (by simp only [mn]; omega) (by simp only [mx]; omega) ?_
    exact ⟨i + 1, hlt, by omega, ⟨⟨rfl, rfl, rfl, trivial⟩, .cons (.cons .nil), rfl⟩⟩
  · obtain rfl : i = ps.length := by omega
    refine rt ?_
    rw [List.take_length]
    unfold wholeP
    rw [hps]
    rfl
end Go.Proofs.YteamnhpplclmfaaGreatDoor
end
section
namespace Go.Proofs.YteamnhpplclmfaaGreatDoor
open Go.RowKit Go.Sx
set_option linter.unusedVariables false
/-- the last segment «as» the reference reads it -/
def rmanP (M : Dk) : Nat := match findF manB M.files with | none => 1 | some f => toldP f.bs
theorem unle4_step (q : Bs) (h : q.length = 4) (k : Nat) (hk : k < 4) : unle (q.drop (4 - (k + 1))) = (q[3 - k]'(by omega)).toNat + 256 * unle (q.drop (4 - k)) := by
  rw [List.drop_eq_getElem_cons (by omega : 4 - (k + 1) < q.length), show 4 - (k + 1) + 1 = 4 - k by omega]
  simp only [show 4 - (k + 1) = 3 - k by omega]
  rfl
set_option maxRecDepth 100000 in
set_option maxHeartbeats 2000000 in
theorem rman_any (M : Dk) (fv : Value) (rr : Nat → Prop) (hfs : M.files.length ≤ 1000000) (hfz : ∀ f ∈ M.files, f.bs.length ≤ 16777216) (w : World) (h : RFs rr w fv M.files) (hr : ∀ k, rr k → k < w.heap.size) :
    Calls Tryz.prog 71 ([.agg (rdC M fv)] : List Value).toArray w fun e w' => e = .returned (.int .i64 (rmanP M : Nat)) ∧ Below w.heap.size w w' := by
  have h0 := h
  obtain ⟨ps, hps, hrd, fa, fc, rfl, hcell⟩ := h
  have hpl : ps.length = M.files.length := by rw [← hps]; simp
  refine enterV tab_ok Tryz.func71 rfl Tryz.ntmps71 rfl (St.start w) ?_
  intro b1
  refine ldN 0 rfl rfl ?_
  refine cvs (fun w1 hs => rat_any M _ M.files rr manB hfs w1 (h0.below hs.below hr)) ?_
  rcases at_find manB M.files with ⟨hf1, hf2⟩ | ⟨i, f, hf0, hf1, hf2⟩
  · rw [hf2]
    have e1 : rmanP M = 1 := by unfold rmanP; rw [hf1]
    refine ct rfl ?_
    exact rt (by rw [e1]; rfl)
  rw [hf2]
  have e1 : rmanP M = toldP f.bs := by unfold rmanP; rw [hf1]
  rw [e1]
  refine cf (decide_eq_false (by omega)) ?_
  have hfm := findF_mem hf1
  have hfl := hfz f hfm.1
  have hil : i < ps.length := by rw [hpl]; exact (List.getElem?_eq_some_iff.1 hf0).1
  obtain ⟨p, hp⟩ : ∃ p, p = ps[i] := ⟨_, rfl⟩
  have hpf : p.2 = f := by
    have h9 : M.files[i]? = some p.2 := by rw [← hps, hp]; simp [hil]
    exact Option.some.inj (h9.symm.trans hf0)
  have hpm : p ∈ ps := hp ▸ List.getElem_mem hil
  have hpr := hrd p hpm
  rw [hpf] at hpr
  obtain ⟨qa, qc, hq, hqc, _, hqs, _, _⟩ := id hpr
  rw [Lib.byteCells_length] at hq hqc
  rw [hq] at hpr
  obtain ⟨fb, fo, hfa, hfb, hfbl, hfc⟩ := hcell (by intro e; rw [e] at hpl; rw [hpl] at hil; exact absurd hil (by simp))
  subst hfa
  obtain ⟨c1, c2, c3⟩ := rfC_get ps i hil
  rw [← hp, hq] at c2
  have hc2 : w.cell? ⟨fb, fo + i * 3 + 1, none⟩ = some (.slice qa f.bs.length qc) := by rw [Nat.add_assoc]; exact hfc _ _ c2
  refine ld1 0 rfl (v := .slice (some ⟨fb, fo, none⟩) M.files.length fc) rfl ?_
  refine ⟨by omega, by omega, ?_⟩
  refine ldo (by simp only [nad_eq, nmu_eq, Int.toNat_natCast]; exact hc2) hfbl ?_
  refine cMs (α := AllY) (Φ := fun y => recsP f.bs = y.ps ∧ AllOk f.bs y) (v := fun y => sv y.r y.ps.length) (es := allL) (fun w1 hs => (rall_any qa f.bs qc hqc hfl hqs w1 (hpr.rd.below hs.below)).mono fun e w' ⟨y, h1, h2, h3, h4⟩ => ⟨y, ⟨h1, h2⟩, h3, h4⟩) (fun _ _ => allL_A) (fun y hy => ?_)
  obtain ⟨qs, r, vs, rr1⟩ := y
  obtain ⟨hqs1, hok⟩ := hy
  have hrow := hok.row
  have hpls := hok.pls
  have hle := hok.le
  dsimp only at hqs1 hrow hpls hle ⊢
  have hlen : vs.length = qs.length := hpls.len
  have h8 := whole_ge qs
  obtain ⟨va, vc, hva⟩ := sv_sl hrow
  rw [hva]
  have hxx : ∀ z : Int, (z != z) = false := fun z => bne_self_eq_false z
  have hyy : ∀ z : Int, ((z != z) == false) = true := fun z => by rw [hxx]; rfl
  have t0 : ∀ (h : ¬ (f.bs.length = 12 ∧ ∃ p, qs = [p] ∧ p.length = 4)), toldP f.bs = 0 := fun h => by
    unfold toldP
    rw [hqs1]
    match qs, hle with
    | [], _ => rfl
    | p :: qs', hle =>
      dsimp only
      rw [whole_cons] at hle
      by_cases h4 : p.length = 4 ∧ f.bs.length = 12 ∧ 1 ≤ unle p ∧ unle p ≤ 1048576
      · refine absurd ⟨h4.2.1, p, ?_, h4.1⟩ h
        match qs', hle with
        | [], _ => rfl
        | q :: _, hle => rw [whole_cons] at hle; omega
      · rw [if_neg h4]
  by_cases h12 : f.bs.length = 12
  case neg =>
    have d1 : (((f.bs.length : Nat) : Int) != 12) = true := by rw [bne_iff_ne]; omega
    have d2 : ((((f.bs.length : Nat) : Int) != 12) == false) = false := by rw [d1]; rfl
    repeat (first | refine cf d2 ?_ | refine ct d1 ?_ | refine ct rfl ?_ | refine cf rfl ?_)
    exact rt (by rw [t0 (fun h => h12 h.1)]; rfl)
  have d1 : (((f.bs.length : Nat) : Int) != 12) = false := by rw [h12]; rfl
  have d2 : ((((f.bs.length : Nat) : Int) != 12) == false) = true := by rw [d1]; rfl
  by_cases hq1 : qs.length = 1
  case neg =>
    have d3 : (((qs.length : Nat) : Int) != 1) = true := by rw [bne_iff_ne]; omega
    have d4 : ((((qs.length : Nat) : Int) != 1) == false) = false := by rw [d3]; rfl
    repeat (first | refine ct d2 ?_ | refine cf d1 ?_ | refine cf d4 ?_ | refine ct d3 ?_ | refine ct rfl ?_ | refine cf rfl ?_)
    exact rt (by rw [t0 (fun h => by obtain ⟨_, p, e, _⟩ := h; rw [e] at hq1; exact hq1 rfl)]; rfl)
  have d3 : (((qs.length : Nat) : Int) != 1) = false := by rw [hq1]; rfl
  have d4 : ((((qs.length : Nat) : Int) != 1) == false) = true := by rw [d3]; rfl
  obtain ⟨q, rfl⟩ : ∃ q, qs = [q] := by
    match qs, hq1 with
    | [q], _ => exact ⟨q, rfl⟩
  obtain ⟨pa, pc, hpv⟩ := hpls.at (i := 0) (p := q) rfl
  have hadr := hok.adr 0 _ q hpv rfl
  obtain ⟨k1, k2⟩ := recC_at 0 vs [q] 0 _ hlen hpv
  cases r with
  | none => exact absurd (show [q].length = 0 from hrow.2) (by simp)
  | some z =>
  obtain ⟨b, cap, jj⟩ := z
  injection hva with g1 _ _
  subst g1
  have hcl : ∀ (j : Nat) (u : Value), (recC 0 vs [q])[j]? = some u → (recC 0 vs [q] ++ jj).toArray[j]? = some u := fun j u hu => by
    rw [List.getElem?_toArray, List.getElem?_append_left (List.getElem?_eq_some_iff.1 hu).1]; exact hu
  repeat (first | refine ct d2 ?_ | refine cf d1 ?_ | refine cf d4 ?_ | refine ct d4 ?_ | refine ct rfl ?_ | refine cf rfl ?_)
  refine ⟨by decide, by simp, ?_⟩
  repeat (first | refine ct d2 ?_ | refine cf d1 ?_ | refine cf d4 ?_ | refine ct d4 ?_ | refine ct rfl ?_ | refine cf rfl ?_)
  refine ld1 1 rfl (v := .slice pa q.length pc) (by simp only [nad_eq, nmu_eq]; exact hcl 1 _ k2) ?_
  by_cases h4 : q.length = 4
  case neg =>
    have d5 : (((q.length : Nat) : Int) != 4) = true := by rw [bne_iff_ne]; omega
    repeat (first | refine ct d2 ?_ | refine cf d1 ?_ | refine cf d4 ?_ | refine ct d4 ?_ | refine ct d5 ?_ | refine ct rfl ?_ | refine cf rfl ?_)
    exact rt (by rw [t0 (fun h => by obtain ⟨_, p, e, h⟩ := h; exact h4 (by have e2 : q = p := (by simpa using e); rw [e2]; exact h))]; rfl)
  have d5 : (((q.length : Nat) : Int) != 4) = false := by rw [h4]; rfl
  repeat (first | refine ct d2 ?_ | refine cf d1 ?_ | refine cf d4 ?_ | refine ct d4 ?_ | refine cf d5 ?_ | refine ct rfl ?_ | refine cf rfl ?_)
  have hto : toldP f.bs = if 1 ≤ unle q ∧ unle q ≤ 1048576 then unle q else 0 := by
    unfold toldP
    rw [hqs1]
    dsimp only
    by_cases hb : 1 ≤ unle q ∧ unle q ≤ 1048576
    · rw [if_pos ⟨h4, h12, hb⟩, if_pos hb]
    · rw [if_neg (fun h => hb h.2.2), if_neg hb]
  have hul := unle_lt q
  rw [h4] at hul
  obtain ⟨pb, po, pc2, hpe⟩ := hadr (fun e => by rw [e] at h4; simp at h4)
  injection hpe with hpe1 _ _
  subst hpe1
  have hvq : vs[0]? = some (.slice (some ⟨pb, po, none⟩) q.length pc) := hpv
  refine lp tab_ok (fun k : Nat => k ≤ 4) (fun k => ⟨[(5, .slice (some ⟨b, 0, none⟩) 1 vc), (6, .int .i64 (unle (q.drop (4 - k)) : Nat)), (7, .int .i64 (3 - (k : Int)))], [dead, cl b (recC 0 vs [q] ++ jj).toArray TRec, rs (bgR rr1 vs [q])], []⟩) (fun k => 4 - k) 0 (Nat.zero_le _) ⟨⟨rfl, by rw [show q.drop (4 - 0) = [] by rw [List.drop_eq_nil_iff]; omega]; rfl, rfl, trivial⟩, .dead (.cons (.cons .nil)), rfl⟩ ?_
  intro k hk
  by_cases hlt : k < 4
  · refine ct (decide_eq_true (by omega)) ?_
    have hst := unle4_step q h4 k hlt
    have hu4 := unle_lt (q.drop (4 - k))
    have hpw : 256 ^ (q.drop (4 - k)).length ≤ 256 ^ 3 := Nat.pow_le_pow_right (by decide) (by rw [List.length_drop]; omega)
    obtain ⟨u, hu⟩ : ∃ u, u = unle (q.drop (4 - k)) := ⟨_, rfl⟩
    rw [← hu] at hst hu4 ⊢
    have hu3 : u < 16777216 := Nat.lt_of_lt_of_le hu4 hpw
    have hcell2 : (Lib.byteCells q)[3 - k]? = some (.int .u8 (q[3 - k]'(by omega)).toNat) := by simp [Lib.byteCells, show 3 - k < q.length by omega]
    have hcl2 := (q[3 - k]'(by omega)).toNat_lt
    generalize (q[3 - k]'(by omega)) = x at hst hcell2 hcl2
    refine .as ((256 * u : Nat) : Int) (by omega) (by simp only [mn]; omega) (by simp only [mx]; omega) ?_
    refine ⟨by decide, by simp, ?_⟩
    refine ld1 1 rfl (v := .slice (some ⟨pb, po, none⟩) q.length pc) (by simp only [nad_eq, nmu_eq]; exact hcl 1 _ k2) ?_
    refine ⟨by omega, by omega, ?_⟩
    refine .mk (.int .u8 x.toNat) (fun w' hs => ((hs.res (k := 2) rfl : (bgR rr1 vs [q]).p w').1 0 _ _ hvq rfl).rd.at hcell2 (by omega)) ?_
    refine .same (by simp only [mn]; omega) (by simp only [mx]; omega) ?_
    refine .as ((unle (q.drop (4 - (k + 1))) : Nat) : Int) (by rw [hst]; omega) (by simp only [mn]; omega) (by rw [hst]; simp only [mx]; omega) ?_
    refine .as (3 - ((k + 1 : Nat) : Int)) (by omega) (by simp only [mn]; omega) (by simp only [mx]; omega) ?_
    exact ⟨k + 1, hlt, by omega, ⟨⟨rfl, rfl, rfl, trivial⟩, .dead (.cons (.cons .nil)), rfl⟩⟩
  obtain rfl : k = 4 := by omega
  refine cf rfl ?_
  rw [show q.drop (4 - 4) = q from rfl]
  generalize unle q = u at hto hul ⊢
  by_cases hu1 : u < 1
  · have d6 : decide (((u : Nat) : Int) < 1) = true := decide_eq_true (by omega)
    have d7 : (decide (((u : Nat) : Int) < 1) == false) = false := by rw [d6]; rfl
    repeat (first | refine ct d6 ?_ | refine cf d7 ?_ | refine ct rfl ?_ | refine cf rfl ?_)
    exact rt (by rw [hto, if_neg (by omega)]; rfl)
  have d6 : decide (((u : Nat) : Int) < 1) = false := decide_eq_false (by omega)
  have d7 : (decide (((u : Nat) : Int) < 1) == false) = true := by rw [d6]; rfl
  by_cases hu2 : u > 1048576
  · have d8 : decide (((u : Nat) : Int) > 1048576) = true := decide_eq_true (by omega)
    repeat (first | refine cf d6 ?_ | refine ct d7 ?_ | refine ct d8 ?_ | refine ct rfl ?_ | refine cf rfl ?_)
    exact rt (by rw [hto, if_neg (by omega)]; rfl)
  have d8 : decide (((u : Nat) : Int) > 1048576) = false := decide_eq_false (by omega)
  repeat (first | refine cf d6 ?_ | refine ct d7 ?_ | refine cf d8 ?_ | refine ct rfl ?_ | refine cf rfl ?_)
  exact rt (by rw [hto, if_pos (by omega)]; rfl)
end Go.Proofs.YteamnhpplclmfaaGreatDoor
end
section
namespace Go.Proofs.YteamnhpplclmfaaGreatDoor
open Go.RowKit Go.Sx
set_option linter.unusedVariables false
abbrev TRS : Nat := 60
/-- a reference's store -/
def rsC (M : Dk) (fv : Value) (S : Sr) (pv : Value) : Array Value := #[.int .i64 M.quota, .int .i64 M.steps, .int .i64 M.left, .bool M.armed, .bool M.gone, fv, .int .i64 S.size, pv, .int .i64 S.sure, .int .i64 S.last, .int .i64 S.stuck]
def rlenP (M : Dk) (n : Nat) : Nat := match findF (nameS n) M.files with | none => 0 | some f => f.bs.length
set_option maxRecDepth 100000 in
set_option maxHeartbeats 2000000 in
theorem rlen_any (M : Dk) (fv : Value) (S : Sr) (pv : Value) (rr : Nat → Prop) (hfs : M.files.length ≤ 1000000) (hl : S.last ≤ 1000000000) (w : World) (h : RFs rr w fv M.files) (hr : ∀ k, rr k → k < w.heap.size) :
    Calls Tryz.prog 78 ([.agg (rsC M fv S pv)] : List Value).toArray w fun e w' => e = .returned (.int .i64 (rlenP M S.last : Nat)) ∧ Below w.heap.size w w' := by
  have h0 := h
  obtain ⟨ps, hps, hrd, fa, fc, rfl, hcell⟩ := h
  have hpl : ps.length = M.files.length := by rw [← hps]; simp
  refine enterV tab_ok Tryz.func78 rfl Tryz.ntmps78 rfl (St.start w) ?_
  intro b1
  refine dr [cl b1 (rsC M (.slice fa M.files.length fc) S pv) TRS] 99 (.t 0 (.t 1 (.t 2 (.t 3 (.t 4 (.t 5 (.n 6 .nil))))))) tab_ok mixed_ok (by kernel_rfl) (.cons .nil) ?_
  refine ldP 0 (d := rdC M (.slice fa M.files.length fc)) rfl rfl rfl ?_
  refine ld1 0 rfl (v := .int .i64 S.last) rfl ?_
  refine cz (fun w1 => rname_any S.last hl w1) ?_
  refine czs (fun w1 hs => rat_any M _ M.files rr (nameS S.last) hfs w1 (h0.below hs.below hr)) ?_
  rcases at_find (nameS S.last) M.files with ⟨hf1, hf2⟩ | ⟨i, f, hf0, hf1, hf2⟩
  · rw [hf2]
    have e1 : rlenP M S.last = 0 := by unfold rlenP; rw [hf1]
    refine ⟨.cons .nil, ?_⟩
    refine cf rfl ?_
    exact rt (by rw [e1]; rfl)
  rw [hf2]
  have e1 : rlenP M S.last = f.bs.length := by unfold rlenP; rw [hf1]
  rw [e1]
  refine ⟨.cons .nil, ?_⟩
  refine ct (decide_eq_true (by omega)) ?_
  have hil : i < ps.length := by rw [hpl]; exact (List.getElem?_eq_some_iff.1 hf0).1
  obtain ⟨p, hp⟩ : ∃ p, p = ps[i] := ⟨_, rfl⟩
  have hpf : p.2 = f := by
    have h9 : M.files[i]? = some p.2 := by rw [← hps, hp]; simp [hil]
    exact Option.some.inj (h9.symm.trans hf0)
  have hpr := hrd p (hp ▸ List.getElem_mem hil)
  rw [hpf] at hpr
  obtain ⟨qa, qc, hq⟩ := rdr_slice hpr
  obtain ⟨fb, fo, hfa, hfb, hfbl, hfc⟩ := hcell (by intro e; rw [e] at hpl; rw [hpl] at hil; exact absurd hil (by simp))
  subst hfa
  obtain ⟨c1, c2, c3⟩ := rfC_get ps i hil
  rw [← hp, hq] at c2
  have hc2 : w.cell? ⟨fb, fo + i * 3 + 1, none⟩ = some (.slice qa f.bs.length qc) := by rw [Nat.add_assoc]; exact hfc _ _ c2
  refine ld1 0 rfl (v := .slice (some ⟨fb, fo, none⟩) M.files.length fc) rfl ?_
  refine ⟨by omega, by omega, ?_⟩
  refine ldo (by simp only [nad_eq, nmu_eq, Int.toNat_natCast]; exact hc2) hfbl ?_
  exact rt rfl
end Go.Proofs.YteamnhpplclmfaaGreatDoor
end
section
namespace Go.Proofs.YteamnhpplclmfaaGreatDoor
open Go.RowKit Go.Sx
set_option linter.unusedVariables false
/-- Sync «as» the reference has it -/
def rsyncS (x : Sd) : Sd × Nat :=
  if x.S.stuck ≠ 0 then (x, x.S.stuck)
  else if x.D.gone = true then (⟨{ x.S with stuck := 4 }, x.D⟩, 4)
  else if hasD x.D (nameS x.S.last) = true then
    (if (rsyncD x.D (nameS x.S.last)).2 = 0 then (⟨{ x.S with sure := x.S.pl.length }, (rsyncD x.D (nameS x.S.last)).1⟩, 0) else (⟨{ x.S with stuck := (rsyncD x.D (nameS x.S.last)).2 }, (rsyncD x.D (nameS x.S.last)).1⟩, (rsyncD x.D (nameS x.S.last)).2))
  else (⟨{ x.S with sure := x.S.pl.length }, x.D⟩, 0)
/-- what a function of the reference's store hands back, where the payloads stay -/
def RefS (rr : Nat → Prop) (w : World) (x : Sd) (pv : Value) (code : Nat) (e : Ending) (w' : World) : Prop := ∃ (fv' : Value) (rr' : Nat → Prop), e = .returned (.tuple #[.agg (rsC x.D fv' x.S pv), .int .i64 code]) ∧ Below w.heap.size w w' ∧ RFs rr' w' fv' x.D.files ∧ (∀ k, rr' k → rr k ∨ w.heap.size ≤ k)
theorem St.mr {w : World} {rr : Nat → Prop} {fv : Value} {fs : List Fe} (h : RFs rr w fv fs) (hr : ∀ k, rr k → k < w.heap.size) : St [] w w [rs (mR rr fv fs)] := by
  refine St.from w [] _ (fun e he => ?_) (by simp)
  obtain rfl : e = rs (mR rr fv fs) := by simpa using he
  exact ⟨(rsOk _ _).2 ⟨h, hr⟩, fun k hk => ((rsW _ _).1 hk).elim⟩
theorem rsC_one (M : Dk) (S : Sr) (a pa : Option Addr) (n c pn pc : Nat) : (rsC M (.slice a n c) S (.slice pa pn pc)).toList.all (·.oneCell') = true := rfl
set_option maxRecDepth 100000 in
set_option maxHeartbeats 2000000 in
theorem rsyncS_any (M : Dk) (fv : Value) (S : Sr) (pa : Option Addr) (pc : Nat) (rr : Nat → Prop) (hfs : M.files.length ≤ 1000000) (hst : M.steps ≤ 1000000) (hlf : M.left ≤ 9223372036854775807) (hl : S.last ≤ 1000000000) (w : World) (h : RFs rr w fv M.files) (hr : ∀ k, rr k → k < w.heap.size) :
    Calls Tryz.prog 32 ([.agg (rsC M fv S (.slice pa S.pl.length pc))] : List Value).toArray w (RefS rr w (rsyncS ⟨S, M⟩).1 (.slice pa S.pl.length pc) (rsyncS ⟨S, M⟩).2) := by
  have h0 := h
  obtain ⟨ps, hps, hrd, fa, fc, rfl, hcell⟩ := h
  refine (enter tab_ok Tryz.func32 rfl Tryz.ntmps32 rfl (St.mr h0 hr) (R := fun v w' => RefS rr w (rsyncS ⟨S, M⟩).1 (.slice pa S.pl.length pc) (rsyncS ⟨S, M⟩).2 (.returned v) w') ?_).mono (fun e w' ⟨v, he, h⟩ => by rw [he]; exact h)
  have fin : ∀ (L : List Ent) (w1 : World) (S' : Sr) (c : Nat) (v : Value), St [] w w1 L → rsyncS ⟨S, M⟩ = (⟨S', M⟩, c) → v = .tuple #[.agg (rsC M (.slice fa M.files.length fc) S' (.slice pa S.pl.length pc)), .int .i64 c] → RefS rr w (rsyncS ⟨S, M⟩).1 (.slice pa S.pl.length pc) (rsyncS ⟨S, M⟩).2 (.returned v) w1 := fun L w1 S' c v hs e hv => by
    rw [e]
    exact ⟨_, rr, by rw [hv], hs.below, h0.below hs.below hr, fun k hk => .inl hk⟩
  intro b1 b2
  refine ld1 1 rfl (v := .int .i64 S.stuck) rfl ?_
  by_cases hsk : S.stuck = 0
  case neg =>
    refine ct (by rw [bne_iff_ne]; omega) ?_
    refine drs [dead, cl b1 (rsC M (.slice fa M.files.length fc) S (.slice pa S.pl.length pc)) TRS] [99] (.t 0 (.t 1 (.t 2 (.n 3 (.n 4 .nil))))) tab_ok mixed_ok (by kernel_rfl) (.dead (.cons .nil)) ?_
    refine ldN 1 rfl rfl ?_
    refine ld1 1 rfl (v := .int .i64 S.stuck) rfl ?_
    refine sN 2 rfl rfl (rsC_one M S _ _ _ _ _ _) ?_ (by kernel_rfl)
    iterate 2 refine ⟨.dead (.cons .nil), ?_⟩
    refine ldN 2 rfl rfl ?_
    exact ⟨fun w1 hs => fin _ w1 S S.stuck _ hs (by unfold rsyncS; rw [if_pos hsk]) rfl⟩
  refine cf (by rw [hsk]; rfl) ?_
  refine ld1 1 rfl (v := .bool M.gone) rfl ?_
  have hu : rsyncS ⟨S, M⟩ = if M.gone = true then (⟨{ S with stuck := 4 }, M⟩, 4) else if hasD M (nameS S.last) = true then
      (if (rsyncD M (nameS S.last)).2 = 0 then (⟨{ S with sure := S.pl.length }, (rsyncD M (nameS S.last)).1⟩, 0) else (⟨{ S with stuck := (rsyncD M (nameS S.last)).2 }, (rsyncD M (nameS S.last)).1⟩, (rsyncD M (nameS S.last)).2))
      else (⟨{ S with sure := S.pl.length }, M⟩, 0) := by unfold rsyncS; rw [if_neg (by simpa using hsk)]
  cases hg : M.gone with
  | true =>
    rw [hg, if_pos rfl] at hu
    refine ct rfl ?_
    refine dr [dead, cl b1 (rsC M (.slice fa M.files.length fc) S (.slice pa S.pl.length pc)) TRS] 99 (.t 0 (.t 1 (.t 2 (.t 3 (.t 4 (.t 5 (.t 6 (.t 7 (.t 8 (.t 9 (.t 10 .nil))))))))))) tab_ok mixed_ok (by kernel_rfl) (.dead (.cons .nil)) ?_
    repeat (first | refine ct rfl ?_ | refine cf rfl ?_)
    refine s1 1 rfl (by show 10 < 11; decide) ?_
    refine ldN 1 rfl rfl ?_
    refine sN 2 rfl rfl (rsC_one M { S with stuck := 4 } fa pa M.files.length fc S.pl.length pc) ?_ (by kernel_rfl)
    refine ldN 2 rfl rfl ?_
    exact ⟨fun w1 hs => fin _ w1 { S with stuck := 4 } 4 _ hs hu rfl⟩
  | false =>
  rw [hg, if_neg (by decide)] at hu
  refine cf rfl ?_
  refine dr [dead, cl b1 (rsC M (.slice fa M.files.length fc) S (.slice pa S.pl.length pc)) TRS] 99 (.t 0 (.t 1 (.t 2 (.t 3 (.t 4 (.t 5 (.t 6 (.t 7 (.t 8 (.t 9 (.t 10 .nil))))))))))) tab_ok mixed_ok (by kernel_rfl) (.dead (.cons .nil)) ?_
  repeat (first | refine ct rfl ?_ | refine cf rfl ?_)
  refine ldP 1 (d := rdC M (.slice fa M.files.length fc)) rfl rfl rfl ?_
  repeat (first | refine ct rfl ?_ | refine cf rfl ?_)
  refine ld1 1 rfl (v := .int .i64 S.last) rfl ?_
  repeat (first | refine ct rfl ?_ | refine cf rfl ?_)
  refine cz (fun w1 => rname_any S.last hl w1) ?_
  repeat (first | refine ct rfl ?_ | refine cf rfl ?_)
  refine czs (fun w1 hs => rat_any M _ M.files rr (nameS S.last) hfs w1 (h0.below hs.below hr)) ?_
  rcases at_find (nameS S.last) M.files with ⟨hf1, hf2⟩ | ⟨i, f, hf0, hf1, hf2⟩
  · rw [hf2]
    rw [if_neg (by unfold hasD; rw [hf1]; decide)] at hu
    repeat (first | refine ct rfl ?_ | refine cf rfl ?_)
    refine ld1 1 rfl (v := .slice pa S.pl.length pc) rfl ?_
    refine s1 1 rfl (by show 8 < 11; decide) ?_
    refine ldN 1 rfl rfl ?_
    refine sN 2 rfl rfl (rsC_one M { S with sure := S.pl.length } fa pa M.files.length fc S.pl.length pc) ?_ (by kernel_rfl)
    refine ldN 2 rfl rfl ?_
    exact ⟨fun w1 hs => fin _ w1 { S with sure := S.pl.length } 0 _ hs hu rfl⟩
  rw [hf2]
  have q1 : decide (((i : Nat) : Int) ≥ 0) = true := decide_eq_true (by omega)
  rw [if_pos (by unfold hasD; rw [hf1]; rfl)] at hu
  repeat (first | refine ct rfl ?_ | refine cf rfl ?_ | refine ct q1 ?_)
  refine drs [rs (mR rr (.slice fa M.files.length fc) M.files), cl b1 (rsC M (.slice fa M.files.length fc) S (.slice pa S.pl.length pc)) TRS] [7, 8, 9, 10, 11] (.t 0 (.t 1 (.t 2 (.t 3 (.t 4 (.n 5 (.t 6 (.b 7 8 (.b 8 9 (.n 9 (.n 10 (.n 11 .nil))) (.b 8 10 (.n 10 (.n 11 .nil)) (.n 8 (.n 11 .nil)))) (.n 7 (.n 9 (.n 10 (.n 11 .nil)))))))))))) tab_ok mixed_ok (by kernel_rfl) (.cons (.cons .nil)) ?_
  refine ldP 1 (d := rdC M (.slice fa M.files.length fc)) rfl rfl rfl ?_
  refine ld1 1 rfl (v := .int .i64 S.last) rfl ?_
  refine cz (fun w1 => rname_any S.last hl w1) ?_
  refine cRf (M' := (rsyncD M (nameS S.last)).1) (code := (rsyncD M (nameS S.last)).2) 0 rfl (fun w1 hs => rsync_any M _ rr (nameS S.last) hfs hst hlf w1 (h0.below hs.below hr) (fun k hk => Nat.lt_of_lt_of_le (hr k hk) hs.size)) (fun fv' rr' hfv' hrr' => ?_)
  obtain ⟨fa', fn', fc', rfl⟩ := hfv'
  obtain ⟨y, hy⟩ : ∃ y, y = rsyncD M (nameS S.last) := ⟨_, rfl⟩
  rw [← hy] at hu ⊢
  refine ⟨.cons (.cons .nil), ?_⟩
  refine ⟨?_, ?_⟩
  · refine ⟨?_, ?_⟩
    · refine sP 1 (d := rdC y.1 (.slice fa' fn' fc')) rfl (by show 0 + 6 ≤ 11; decide) rfl (e := rsC y.1 (.slice fa' fn' fc') S (.slice pa S.pl.length pc)) rfl ?_ (by kernel_rfl)
      by_cases hc : y.2 = 0
      · rw [if_pos hc] at hu
        rw [hc]
        refine cf rfl ?_
        refine ld1 1 rfl (v := .slice pa S.pl.length pc) rfl ?_
        refine s1 1 rfl (by show 8 < 11; decide) ?_
        refine ldN 1 rfl rfl ?_
        refine sN 2 rfl rfl (rsC_one y.1 { S with sure := S.pl.length } fa' pa fn' fc' S.pl.length pc) ?_ (by kernel_rfl)
        refine ldN 2 rfl rfl ?_
        exact ⟨fun w1 hs => by rw [hu]; exact ⟨_, rr', rfl, hs.below, (hs.res (k := 3) rfl : (mR _ _ _).p w1).1, hrr'⟩⟩
      · rw [if_neg hc] at hu
        refine ct (by rw [bne_iff_ne]; omega) ?_
        refine s1 1 rfl (by show 10 < 11; decide) ?_
        refine ldN 1 rfl rfl ?_
        refine sN 2 rfl rfl (rsC_one y.1 { S with stuck := y.2 } fa' pa fn' fc' S.pl.length pc) ?_ (by kernel_rfl)
        refine ldN 2 rfl rfl ?_
        exact ⟨fun w1 hs => by rw [hu]; exact ⟨_, rr', rfl, hs.below, (hs.res (k := 3) rfl : (mR _ _ _).p w1).1, hrr'⟩⟩
    · refine ⟨?_, ?_⟩
      · refine sP 1 (d := rdC y.1 (.slice fa' fn' fc')) rfl (by show 0 + 6 ≤ 11; decide) rfl (e := rsC y.1 (.slice fa' fn' fc') S (.slice pa S.pl.length pc)) rfl ?_ (by kernel_rfl)
        by_cases hc : y.2 = 0
        · rw [if_pos hc] at hu
          rw [hc]
          refine cf rfl ?_
          refine ld1 1 rfl (v := .slice pa S.pl.length pc) rfl ?_
          refine s1 1 rfl (by show 8 < 11; decide) ?_
          refine ldN 1 rfl rfl ?_
          refine sN 2 rfl rfl (rsC_one y.1 { S with sure := S.pl.length } fa' pa fn' fc' S.pl.length pc) ?_ (by kernel_rfl)
          refine ldN 2 rfl rfl ?_
          exact ⟨fun w1 hs => by rw [hu]; exact ⟨_, rr', rfl, hs.below, (hs.res (k := 3) rfl : (mR _ _ _).p w1).1, hrr'⟩⟩
        · rw [if_neg hc] at hu
          refine ct (by rw [bne_iff_ne]; omega) ?_
          refine s1 1 rfl (by show 10 < 11; decide) ?_
          refine ldN 1 rfl rfl ?_
          refine sN 2 rfl rfl (rsC_one y.1 { S with stuck := y.2 } fa' pa fn' fc' S.pl.length pc) ?_ (by kernel_rfl)
          refine ldN 2 rfl rfl ?_
          exact ⟨fun w1 hs => by rw [hu]; exact ⟨_, rr', rfl, hs.below, (hs.res (k := 3) rfl : (mR _ _ _).p w1).1, hrr'⟩⟩
      · refine sP 1 (d := rdC y.1 (.slice fa' fn' fc')) rfl (by show 0 + 6 ≤ 11; decide) rfl (e := rsC y.1 (.slice fa' fn' fc') S (.slice pa S.pl.length pc)) rfl ?_ (by kernel_rfl)
        by_cases hc : y.2 = 0
        · rw [if_pos hc] at hu
          rw [hc]
          refine cf rfl ?_
          refine ld1 1 rfl (v := .slice pa S.pl.length pc) rfl ?_
          refine s1 1 rfl (by show 8 < 11; decide) ?_
          refine ldN 1 rfl rfl ?_
          refine sN 2 rfl rfl (rsC_one y.1 { S with sure := S.pl.length } fa' pa fn' fc' S.pl.length pc) ?_ (by kernel_rfl)
          refine ldN 2 rfl rfl ?_
          exact ⟨fun w1 hs => by rw [hu]; exact ⟨_, rr', rfl, hs.below, (hs.res (k := 3) rfl : (mR _ _ _).p w1).1, hrr'⟩⟩
        · rw [if_neg hc] at hu
          refine ct (by rw [bne_iff_ne]; omega) ?_
          refine s1 1 rfl (by show 10 < 11; decide) ?_
          refine ldN 1 rfl rfl ?_
          refine sN 2 rfl rfl (rsC_one y.1 { S with stuck := y.2 } fa' pa fn' fc' S.pl.length pc) ?_ (by kernel_rfl)
          refine ldN 2 rfl rfl ?_
          exact ⟨fun w1 hs => by rw [hu]; exact ⟨_, rr', rfl, hs.below, (hs.res (k := 3) rfl : (mR _ _ _).p w1).1, hrr'⟩⟩
  · refine sP 1 (d := rdC y.1 (.slice fa' fn' fc')) rfl (by show 0 + 6 ≤ 11; decide) rfl (e := rsC y.1 (.slice fa' fn' fc') S (.slice pa S.pl.length pc)) rfl ?_ (by kernel_rfl)
    by_cases hc : y.2 = 0
    · rw [if_pos hc] at hu
      rw [hc]
      refine cf rfl ?_
      refine ld1 1 rfl (v := .slice pa S.pl.length pc) rfl ?_
      refine s1 1 rfl (by show 8 < 11; decide) ?_
      refine ldN 1 rfl rfl ?_
      refine sN 2 rfl rfl (rsC_one y.1 { S with sure := S.pl.length } fa' pa fn' fc' S.pl.length pc) ?_ (by kernel_rfl)
      refine ldN 2 rfl rfl ?_
      exact ⟨fun w1 hs => by rw [hu]; exact ⟨_, rr', rfl, hs.below, (hs.res (k := 3) rfl : (mR _ _ _).p w1).1, hrr'⟩⟩
    · rw [if_neg hc] at hu
      refine ct (by rw [bne_iff_ne]; omega) ?_
      refine s1 1 rfl (by show 10 < 11; decide) ?_
      refine ldN 1 rfl rfl ?_
      refine sN 2 rfl rfl (rsC_one y.1 { S with stuck := y.2 } fa' pa fn' fc' S.pl.length pc) ?_ (by kernel_rfl)
      refine ldN 2 rfl rfl ?_
      exact ⟨fun w1 hs => by rw [hu]; exact ⟨_, rr', rfl, hs.below, (hs.res (k := 3) rfl : (mR _ _ _).p w1).1, hrr'⟩⟩
end Go.Proofs.YteamnhpplclmfaaGreatDoor
end
section
namespace Go.Proofs.YteamnhpplclmfaaGreatDoor
open Go.RowKit Go.Sx
set_option linter.unusedVariables false
theorem Eqv.has {D M : Dk} (h : Eqv D M) (n : Bs) : hasD D n = hasD M n := by unfold hasD; rw [h.f.find]
theorem Eqv.then {x y : Dk × Nat} {f g : Dk → Dk × Nat} (h : x.2 = y.2 ∧ Eqv x.1 y.1) (hf : ∀ {D M : Dk}, Eqv D M → (f D).2 = (g M).2 ∧ Eqv (f D).1 (g M).1) : (thenD x f).2 = (thenD y g).2 ∧ Eqv (thenD x f).1 (thenD y g).1 := by
  unfold thenD
  rw [h.1]
  split
  · exact hf h.2
  · exact h
theorem Eqv.syncS {D M : Dk} (h : Eqv D M) (S : Sr) : (syncS ⟨S, D⟩).2 = (rsyncS ⟨S, M⟩).2 ∧ (syncS ⟨S, D⟩).1.S = (rsyncS ⟨S, M⟩).1.S ∧ Eqv (syncS ⟨S, D⟩).1.D (rsyncS ⟨S, M⟩).1.D := by
  obtain ⟨h1, h2⟩ := h.sync (nameS S.last)
  unfold Go.Proofs.YteamnhpplclmfaaGreatDoor.syncS rsyncS
  dsimp only
  rw [h.gn, h.has, h1]
  split
  · exact ⟨rfl, rfl, h⟩
  split
  · exact ⟨rfl, rfl, h⟩
  split
  · split
    · exact ⟨rfl, rfl, h2⟩
    · exact ⟨rfl, rfl, h2⟩
  · exact ⟨rfl, rfl, h⟩
/-- Open «as» the reference has it -/
def rdr1 (M : Dk) : Dk × Nat := if hasD M newB = true then rdropD M newB else (M, 0)
def rloadD (x : Ld) (last n : Nat) : Ld × Nat := match findF (nameS n) x.D.files with
  | none => (x, if n < last then 6 else 0)
  | some f =>
    if n < last then (if wholeP f.bs < f.bs.length then (x, 6) else (⟨x.D, x.pl ++ recsP f.bs, x.length⟩, 0))
    else (⟨(thenD (if wholeP f.bs < f.bs.length then rcutD x.D (nameS n) (wholeP f.bs : Nat) else (x.D, 0)) fun D => rsyncD D (nameS n)).1, x.pl ++ recsP f.bs, wholeP f.bs⟩, (thenD (if wholeP f.bs < f.bs.length then rcutD x.D (nameS n) (wholeP f.bs : Nat) else (x.D, 0)) fun D => rsyncD D (nameS n)).2)
def rloadsD : Nat → Ld → Nat → Nat → Ld × Nat
  | 0, x, _, _ => (x, 0)
  | k + 1, x, last, n => if (rloadD x last n).2 = 0 then rloadsD k (rloadD x last n).1 last (n + 1) else rloadD x last n
def rdropsD (bound : Bs) : Dk × Nat → List Bs → Dk × Nat
  | x, [] => x
  | x, f :: fs => rdropsD bound (if List.isPrefixOf [115, 101, 103, 45] f && decide (bound < f) then thenD x fun D => rdropD D f else x) fs
theorem Eqv.dr1 {D M : Dk} (h : Eqv D M) : (dr1 D).2 = (rdr1 M).2 ∧ Eqv (dr1 D).1 (rdr1 M).1 := by
  unfold Go.Proofs.YteamnhpplclmfaaGreatDoor.dr1 rdr1
  rw [h.has]
  split
  · exact h.drop newB
  · exact ⟨rfl, h⟩
theorem Eqv.drops (b : Bs) (l : List Bs) : ∀ {x y : Dk × Nat}, (x.2 = y.2 ∧ Eqv x.1 y.1) → (dropsD b x l).2 = (rdropsD b y l).2 ∧ Eqv (dropsD b x l).1 (rdropsD b y l).1 := by
  induction l with
  | nil => exact fun h => h
  | cons f l ih =>
    intro x y h
    rw [dropsD, rdropsD]
    split
    · exact ih (Eqv.then h fun h => h.drop f)
    · exact ih h
theorem Eqv.load {x y : Ld} (h : Eqv x.D y.D) (hp : x.pl = y.pl) (hl : x.length = y.length) (hg : x.D.gone = false) (last n : Nat) : (loadD x last n).2 = (rloadD y last n).2 ∧ (loadD x last n).1.pl = (rloadD y last n).1.pl ∧ (loadD x last n).1.length = (rloadD y last n).1.length ∧ Eqv (loadD x last n).1.D (rloadD y last n).1.D := by
  unfold loadD rloadD
  rw [h.f.find]
  cases findF (nameS n) x.D.files with
  | none => exact ⟨rfl, hp, hl, h⟩
  | some f =>
    dsimp only
    rw [if_neg (by rw [hg]; decide)]
    split
    · split
      · exact ⟨rfl, hp, hl, h⟩
      · exact ⟨rfl, by rw [hp], hl, h⟩
    · have h2 : (if wholeP f.bs < f.bs.length then cutD x.D (nameS n) (wholeP f.bs : Nat) else (x.D, 0)).2 = (if wholeP f.bs < f.bs.length then rcutD y.D (nameS n) (wholeP f.bs : Nat) else (y.D, 0)).2 ∧ Eqv (if wholeP f.bs < f.bs.length then cutD x.D (nameS n) (wholeP f.bs : Nat) else (x.D, 0)).1 (if wholeP f.bs < f.bs.length then rcutD y.D (nameS n) (wholeP f.bs : Nat) else (y.D, 0)).1 := by
        split
        · exact h.cut _ _
        · exact ⟨rfl, h⟩
      have h3 := Eqv.then h2 (f := fun D => syncD D (nameS n)) (g := fun D => rsyncD D (nameS n)) fun h => h.sync (nameS n)
      exact ⟨h3.1, by rw [hp], rfl, h3.2⟩
end Go.Proofs.YteamnhpplclmfaaGreatDoor
end
section
namespace Go.Proofs.YteamnhpplclmfaaGreatDoor
open Go.RowKit Go.Sx
set_option linter.unusedVariables false
theorem load_low {x : Ld} {last n : Nat} (h : n < last) : (loadD x last n).1.D = x.D := by
  unfold loadD
  cases findF (nameS n) x.D.files with
  | none => rfl
  | some f =>
    dsimp only
    by_cases hgn : x.D.gone = true
    · rw [if_pos hgn]
    · rw [if_neg hgn, if_pos h]; split <;> rfl
theorem Eqv.loads (last : Nat) : ∀ (k n : Nat) {x y : Ld}, n + k = last + 1 → Eqv x.D y.D → x.pl = y.pl → x.length = y.length → x.D.gone = false → (loadsD k x last n).2 = (rloadsD k y last n).2 ∧ (loadsD k x last n).1.pl = (rloadsD k y last n).1.pl ∧ (loadsD k x last n).1.length = (rloadsD k y last n).1.length ∧ Eqv (loadsD k x last n).1.D (rloadsD k y last n).1.D := by
  intro k
  induction k with
  | zero => exact fun n x y _ h hp hl _ => ⟨rfl, hp, hl, h⟩
  | succ k ih =>
    intro n x y hn h hp hl hg
    obtain ⟨h1, h2, h3, h4⟩ := h.load hp hl hg last n
    rw [loadsD, rloadsD, h1]
    split
    · by_cases hlt : n < last
      · exact ih (n + 1) (by omega) h4 h2 h3 (by rw [load_low hlt]; exact hg)
      · obtain rfl : k = 0 := by omega
        exact ⟨rfl, h2, h3, h4⟩
    · exact ⟨h1, h2, h3, h4⟩
theorem gone_act {D : Dk} {fs : List Fe} (hg : D.gone = false) (h : (actD D fs).2 = 0) : (actD D fs).1.gone = false := by
  unfold actD at h ⊢
  unfold stepD at h ⊢
  by_cases hc : (D.gone || D.armed && D.left == 0) = true
  · rw [if_pos hc] at h; simp at h
  · rw [if_neg hc]; exact hg
theorem gone_dr1 {D : Dk} (hg : D.gone = false) (h : (dr1 D).2 = 0) : (dr1 D).1.gone = false := by
  unfold dr1 at h ⊢
  split
  · rename_i hh
    rw [if_pos hh] at h
    unfold dropD at h ⊢
    split
    · exact hg
    · rename_i f hf
      rw [hf] at h
      exact gone_act hg h
  · exact hg
theorem drops_no (b : Bs) (l : List Bs) : ∀ {x : Dk × Nat}, x.2 ≠ 0 → dropsD b x l = x := by
  induction l with
  | nil => exact fun _ => rfl
  | cons f l ih =>
    intro x h
    rw [dropsD]
    split
    · rw [then_no h]; exact ih h
    · exact ih h
/-- Open «as» the reference has it, where the size and the disk allow it -/
def ropenP (M : Dk) (size : Nat) : OpS :=
  if (rdr1 M).2 ≠ 0 then ⟨⟨size, [], 0, 0, 0, 0⟩, (rdr1 M).1, (rdr1 M).2⟩
  else if rmanP (rdr1 M).1 = 0 then ⟨⟨size, [], 0, 0, 0, 0⟩, (rdr1 M).1, 6⟩
  else if (rloadsD (rmanP (rdr1 M).1) ⟨(rdr1 M).1, [], 0⟩ (rmanP (rdr1 M).1) 1).2 ≠ 0 then ⟨⟨size, (rloadsD (rmanP (rdr1 M).1) ⟨(rdr1 M).1, [], 0⟩ (rmanP (rdr1 M).1) 1).1.pl, 0, rmanP (rdr1 M).1, 0, 0⟩, (rloadsD (rmanP (rdr1 M).1) ⟨(rdr1 M).1, [], 0⟩ (rmanP (rdr1 M).1) 1).1.D, (rloadsD (rmanP (rdr1 M).1) ⟨(rdr1 M).1, [], 0⟩ (rmanP (rdr1 M).1) 1).2⟩
  else ⟨⟨size, (rloadsD (rmanP (rdr1 M).1) ⟨(rdr1 M).1, [], 0⟩ (rmanP (rdr1 M).1) 1).1.pl, (rloadsD (rmanP (rdr1 M).1) ⟨(rdr1 M).1, [], 0⟩ (rmanP (rdr1 M).1) 1).1.pl.length, rmanP (rdr1 M).1, (rloadsD (rmanP (rdr1 M).1) ⟨(rdr1 M).1, [], 0⟩ (rmanP (rdr1 M).1) 1).1.length, 0⟩,
    (rdropsD (nameS (rmanP (rdr1 M).1)) ((rloadsD (rmanP (rdr1 M).1) ⟨(rdr1 M).1, [], 0⟩ (rmanP (rdr1 M).1) 1).1.D, 0) ((rloadsD (rmanP (rdr1 M).1) ⟨(rdr1 M).1, [], 0⟩ (rmanP (rdr1 M).1) 1).1.D.files.map (·.name))).1,
    (rdropsD (nameS (rmanP (rdr1 M).1)) ((rloadsD (rmanP (rdr1 M).1) ⟨(rdr1 M).1, [], 0⟩ (rmanP (rdr1 M).1) 1).1.D, 0) ((rloadsD (rmanP (rdr1 M).1) ⟨(rdr1 M).1, [], 0⟩ (rmanP (rdr1 M).1) 1).1.D.files.map (·.name))).2⟩
theorem eqv_open {D M : Dk} (h : Eqv D M) (hg : D.gone = false) (size : Nat) : (openP D size).code = (ropenP M size).code ∧ Eqv (openP D size).D (ropenP M size).D ∧ ((openP D size).code = 0 → (openP D size).S = (ropenP M size).S) := by
  obtain ⟨h1, h2⟩ := h.dr1
  unfold ropenP
  by_cases hc : (rdr1 M).2 ≠ 0
  · rw [if_pos hc]
    have hc2 : (dr1 D).2 ≠ 0 := by rw [h1]; exact hc
    have e1 : mfC (dr1 D) = (dr1 D).2 := by unfold mfC; rw [if_neg (fun h => hc2 h.2)]
    have e2 : ldOf D = (⟨(dr1 D).1, [], 0⟩, (dr1 D).2) := by unfold ldOf ldAll; rw [e1, if_neg hc2]
    unfold Go.Proofs.YteamnhpplclmfaaGreatDoor.openP
    rw [e2, drops_no _ _ hc2]
    exact ⟨h1, h2, fun h0 => absurd h0 hc2⟩
  rw [if_neg hc]
  have hc0 : (dr1 D).2 = 0 := by rw [h1]; simpa using hc
  have hg1 := gone_dr1 hg hc0
  obtain ⟨D1, hD1⟩ : ∃ D1, D1 = (dr1 D).1 := ⟨_, rfl⟩
  obtain ⟨M1, hM1⟩ : ∃ M1, M1 = (rdr1 M).1 := ⟨_, rfl⟩
  have hdd : dr1 D = (D1, 0) := by rw [hD1, ← hc0]
  rw [← hD1] at h2 hg1
  rw [← hM1] at h2 ⊢
  have hL : mfL (dr1 D) = rmanP M1 ∧ mfC (dr1 D) = (if rmanP M1 = 0 then 6 else 0) := by
    rw [hdd]
    unfold mfL mfC rmanP
    rw [h2.has, h2.read]
    unfold hasD readD
    rw [← h2.gn, hg1]
    cases hf : findF manB M1.files with
    | none => simp
    | some f => by_cases ht : toldP f.bs = 0 <;> simp [ht]
  obtain ⟨hL1, hL2⟩ := hL
  generalize rmanP M1 = last at hL1 hL2 ⊢
  by_cases h0 : last = 0
  · rw [if_pos h0] at hL2 ⊢
    have e2 : ldOf D = (⟨D1, [], 0⟩, 6) := by unfold ldOf ldAll; rw [hL1, hL2, if_neg (by decide), hdd]
    unfold Go.Proofs.YteamnhpplclmfaaGreatDoor.openP
    rw [e2, drops_no _ _ (show ((⟨D1, [], 0⟩ : Ld).D, 6).2 ≠ 0 from by show (6 : Nat) ≠ 0; decide)]
    exact ⟨rfl, h2, fun h0 => absurd h0 (show ¬ (6 : Nat) = 0 by decide)⟩
  rw [if_neg h0] at hL2 ⊢
  have e2 : ldOf D = loadsD last ⟨D1, [], 0⟩ last 1 := by unfold ldOf ldAll; rw [hL1, hL2, if_pos rfl, hdd]
  obtain ⟨l1, l2, l3, l4⟩ := Eqv.loads last last 1 (x := ⟨D1, [], 0⟩) (y := ⟨M1, [], 0⟩) (by omega) h2 rfl rfl hg1
  unfold Go.Proofs.YteamnhpplclmfaaGreatDoor.openP
  rw [e2, hL1]
  generalize loadsD last ⟨D1, [], 0⟩ last 1 = z at l1 l2 l3 l4 ⊢
  generalize rloadsD last ⟨M1, [], 0⟩ last 1 = u at l1 l2 l3 l4 ⊢
  by_cases hz : u.2 ≠ 0
  · rw [if_pos hz, drops_no _ _ (show (z.1.D, z.2).2 ≠ 0 by rw [← l1] at hz; exact hz)]
    exact ⟨l1, l4, fun h0 => absurd (l1.symm.trans h0) hz⟩
  · rw [if_neg hz]
    have hz0 : z.2 = 0 := by rw [l1]; simpa using hz
    rw [hz0, l4.f.names, l2, l3]
    obtain ⟨d1, d2⟩ := Eqv.drops (nameS last) (u.1.D.files.map (·.name)) (x := (z.1.D, 0)) (y := (u.1.D, 0)) ⟨rfl, l4⟩
    exact ⟨d1, d2, fun _ => rfl⟩
end Go.Proofs.YteamnhpplclmfaaGreatDoor
end
section
namespace Go.Proofs.YteamnhpplclmfaaGreatDoor
open Go.RowKit Go.Sx
set_option linter.unusedVariables false
/-- what is new takes an entry's place -/
theorem St.place {M : Bks} {B w : World} {L : List Ent} {e : Ent} (h : St M B w (L ++ [e])) (k : Nat) : St M B w (L.set k e) := by
  have hm : ∀ f ∈ L.set k e, f ∈ L ++ [e] := fun f hf => by
    rcases mem_set_cases hf with rfl | ⟨i, _, hi⟩
    · simp
    · exact List.mem_append_left _ (List.mem_of_getElem? hi)
  exact ⟨h.os, h.tape, h.output, h.size, h.old, fun f hf => h.ok f (hm f hf), fun f hf => h.ownW f (hm f hf), pw_set (List.pairwise_append.1 h.apart).1 fun i f _ hi => pw_ne h.apart at_new (at_app hi) (by have := at_len hi; omega)⟩
theorem _root_.Go.Sx.CallP.to {C : Cx} {L : List Ent} {g : FuncId} {vs : List Value} {next next' : Value → List Ent → Prop} (h : CallP C g vs L next') (hn : ∀ v L', next' v L' → ∃ L'', (∀ w, St C.M C.B w L' → St C.M C.B w L'') ∧ next v L'') : CallP C g vs L next :=
  ⟨fun w hs => (h.go w hs).mono fun e w' ⟨v, L', he, hs', hk⟩ => by
    obtain ⟨L'', h1, h2⟩ := hn v L' hk
    exact ⟨v, L'', he, h1 w' hs', h2⟩⟩
/-- the reference's files, each slice named -/
def mP (rr : Nat → Prop) (fa : Option Addr) (ps : List PF) : Res where
  w _ := False
  r := rr
  p u := ((∀ p ∈ ps, RdR rr u p.1 (Lib.byteCells p.2.bs)) ∧ (ps ≠ [] → ∃ b o, fa = some ⟨b, o, none⟩ ∧ b < u.heap.size ∧ rr b ∧ ∀ j x, (rfC ps)[j]? = some x → u.cell? ⟨b, o + j, none⟩ = some x)) ∧ ∀ k, rr k → k < u.heap.size
  st u v h := fun ⟨⟨h1, h2⟩, h3⟩ => ⟨⟨fun p hp => (h1 p hp).same fun k hk => h k (.inr hk), fun hne => by
    obtain ⟨b, o, e, hb, hr, hc⟩ := h2 hne
    have hbb := h b (.inr hr)
    exact ⟨b, o, e, lt_same hb hbb, hr, fun j x hx => by rw [← hc j x hx]; simp only [World.cell?, hbb]⟩⟩, fun k hk => lt_same (h3 k hk) (h k (.inr hk))⟩
  bd u := fun h k hk => hk.elim False.elim (h.2 k)
/-- how the files' slices look -/
structure PsOk (fa : Option Addr) (ps : List PF) : Prop where
  sh : ∀ p ∈ ps, ∃ a c, p.1 = .slice a p.2.bs.length c ∧ p.2.bs.length ≤ c ∧ ∀ x, a = some x → x.spot = none
  ad : ps ≠ [] → ∃ b o, fa = some ⟨b, o, none⟩
theorem mP_rfs {rr : Nat → Prop} {fa : Option Addr} {fc : Nat} {ps : List PF} {u : World} (h : (mP rr fa ps).p u) : RFs rr u (.slice fa ps.length fc) (ps.map (·.2)) :=
  ⟨ps, rfl, h.1.1, fa, fc, by rw [List.length_map], fun hne => by
    obtain ⟨b, o, e, hb, hr, hc⟩ := h.1.2 (fun h0 => hne (by rw [h0]; rfl))
    exact ⟨b, o, e, hr, hb, hc⟩⟩
theorem rfs_mP {rr : Nat → Prop} {u : World} {fv : Value} {fs : List Fe} (h : RFs rr u fv fs) : ∃ (ps : List PF) (fa : Option Addr) (fc : Nat), ps.map (·.2) = fs ∧ fv = .slice fa ps.length fc ∧ PsOk fa ps ∧ (mP (fun k => rr k ∧ k < u.heap.size) fa ps).p u := by
  obtain ⟨ps, fa, fc, h1, h2, h3, h4⟩ := h.has.pairs
  refine ⟨ps, fa, fc, h1, h2, ⟨fun p hp => ?_, fun hne => ?_⟩, ⟨⟨h3, h4⟩, fun k hk => hk.2⟩⟩
  · obtain ⟨a, c, e1, e2, _, e3, _, _⟩ := h3 p hp
    rw [Lib.byteCells_length] at e1 e2
    exact ⟨a, c, e1, e2, e3⟩
  · obtain ⟨b, o, e, _⟩ := h4 hne
    exact ⟨b, o, e⟩
section
variable {C : Cx} {L : List Ent}
/-- a reference's function is called, and what it makes takes the old one's place -/
theorem cRs (k : Nat) {g : FuncId} {vs : List Value} {M' : Dk} {code : Nat} {rr : Nat → Prop} {fa : Option Addr} {ps : List PF} {next : Value → List Ent → Prop} (hk : L[k]? = some (rs (mP rr fa ps)))
    (h : ∀ w, St C.M C.B w L → Calls C.P g vs.toArray w (RefR rr w M' code))
    (go : ∀ (ps' : List PF) (fa' : Option Addr) (fc' : Nat) (rr' : Nat → Prop), ps'.map (·.2) = M'.files → PsOk fa' ps' → (∀ j, rr' j → rr j ∨ C.B.heap.size ≤ j) → next (.tuple #[.agg (rdC M' (.slice fa' ps'.length fc')), .int .i64 code]) (L.set k (rs (mP rr' fa' ps')))) : CallP C g vs L next := by
  refine ⟨fun w hs => (h w hs).mono fun e w' ⟨fv', rr', he, hb, hf, hr⟩ => ?_⟩
  obtain ⟨ps', fa', fc', h1, rfl, h2, h3⟩ := rfs_mP hf
  refine ⟨_, _, he, St.place (hs.push hb ?_ (fun k hk => by simp [mP] at hk) (fun j hj => ?_)) k, go ps' fa' fc' (fun k => rr' k ∧ k < w'.heap.size) h1 h2 (fun j hj => (hr j hj.1).imp id (Nat.le_trans hs.size))⟩
  · rw [rsOk]; exact h3
  · have h2 : rr' j ∧ j < w'.heap.size := by simpa [mP] using hj
    rcases hr j h2.1 with h1 | h1
    · exact .inr ⟨_, List.mem_of_getElem? hk, (rsA _ _).2 (.inr h1), by simp [mP]⟩
    · exact .inl h1
end
/-- a disk of the reference that is not too large -/
structure Rb (q k : Nat) (M : Dk) : Prop where
  h : ∃ D : Dk, Eqv D M ∧ Bd q k D
theorem Rb.fl {q k : Nat} {M : Dk} (h : Rb q k M) : M.files.length ≤ k := by
  obtain ⟨D, he, hb⟩ := h.h
  rw [he.f.p.length_eq]; exact hb.f.l
theorem Rb.fz {q k : Nat} {M : Dk} (h : Rb q k M) : ∀ f ∈ M.files, f.bs.length ≤ q := fun f hf => by
  obtain ⟨D, he, hb⟩ := h.h
  have h1 := hb.f.q
  have h2 : f.bs.length ≤ usedD D.files := by unfold usedD; exact le_sum (List.mem_map_of_mem (f := fun f : Fe => f.bs.length) (he.f.p.mem_iff.1 hf))
  omega
theorem Rb.us {q k : Nat} {M : Dk} (h : Rb q k M) : usedD M.files ≤ q := by
  obtain ⟨D, he, hb⟩ := h.h
  rw [he.f.used]; exact hb.f.q
theorem Rb.qt {q k : Nat} {M : Dk} (h : Rb q k M) : M.quota = q := by
  obtain ⟨D, he, hb⟩ := h.h
  rw [← he.qt]; exact hb.qt
theorem Rb.st {q k : Nat} {M : Dk} (h : Rb q k M) : M.steps ≤ k := by
  obtain ⟨D, he, hb⟩ := h.h
  rw [← he.st]; exact hb.st
theorem Rb.lf {q k : Nat} {M : Dk} (h : Rb q k M) : M.left ≤ 9223372036854775807 := by
  obtain ⟨D, he, hb⟩ := h.h
  rw [← he.lf]; exact hb.lf
theorem Rb.sz {q k : Nat} {M : Dk} (h : Rb q k M) : ∀ f ∈ M.files, f.sure ≤ f.bs.length := fun f hf => by
  obtain ⟨D, he, hb⟩ := h.h
  exact hb.f.z f (he.f.p.mem_iff.1 hf)
theorem Rb.le {q k k' : Nat} {M : Dk} (h : Rb q k M) (hk : k ≤ k') : Rb q k' M := by
  obtain ⟨D, he, hb⟩ := h.h
  exact ⟨D, he, hb.le hk⟩
theorem Rb.sync {q k : Nat} {M : Dk} (h : Rb q k M) (n : Bs) : Rb q (k + 1) (rsyncD M n).1 := by
  obtain ⟨D, he, hb⟩ := h.h
  exact ⟨_, (he.sync n).2, hb.sync n⟩
theorem Rb.drop {q k : Nat} {M : Dk} (h : Rb q k M) (n : Bs) : Rb q (k + 1) (rdropD M n).1 := by
  obtain ⟨D, he, hb⟩ := h.h
  exact ⟨_, (he.drop n).2, hb.drop n⟩
theorem Rb.cut {q k : Nat} {M : Dk} (h : Rb q k M) (n : Bs) (z : Int) : Rb q (k + 1) (rcutD M n z).1 := by
  obtain ⟨D, he, hb⟩ := h.h
  exact ⟨_, (he.cut n z).2, hb.cut n z⟩
theorem Rb.append {q k : Nat} {M : Dk} (h : Rb q k M) (n x : Bs) : Rb q (k + 1) (rappendD M n x).1 := by
  obtain ⟨D, he, hb⟩ := h.h
  exact ⟨_, (he.append n x).2, hb.append n x⟩
theorem Rb.rename {q k : Nat} {M : Dk} (h : Rb q k M) (n m : Bs) : Rb q (k + 1) (rrenameD M n m).1 := by
  obtain ⟨D, he, hb⟩ := h.h
  exact ⟨_, (he.rename n m).2, hb.rename n m⟩
theorem Rb.then {q k : Nat} {x : Dk × Nat} {f : Dk → Dk × Nat} (h : Rb q k x.1) (hf : Rb q (k + 1) (f x.1).1) : Rb q (k + 1) (thenD x f).1 := by
  unfold thenD
  split
  · exact hf
  · exact h.le (by omega)
theorem Pls.app {vs us : List Value} {ps qs : List Bs} (h : Pls vs ps) (g : Pls us qs) : Pls (vs ++ us) (ps ++ qs) := by
  refine ⟨by rw [List.length_append, List.length_append, h.len, g.len], fun i v p hv hp => ?_⟩
  by_cases hi : i < vs.length
  · rw [List.getElem?_append_left hi] at hv
    rw [List.getElem?_append_left (by rw [← h.len]; exact hi)] at hp
    exact h.sh i v p hv hp
  · rw [List.getElem?_append_right (by omega)] at hv
    rw [List.getElem?_append_right (by rw [← h.len]; omega), ← h.len] at hp
    exact g.sh _ v p hv hp
/-- two bags become one -/
theorem bg_join {M : Bks} {B w : World} {L : List Ent} (hs : St M B w L) {k j : Nat} {r1 r2 : Nat → Prop} {vs us : List Value} {ps qs : List Bs} (hk : L[k]? = some (rs (bgR r1 vs ps))) (hj : L[j]? = some (rs (bgR r2 us qs))) (hkj : k ≠ j) (hl : vs.length = ps.length) :
    St M B w ((L.set j dead).set k (rs (bgR (fun i => r1 i ∨ r2 i) (vs ++ us) (ps ++ qs)))) := by
  have h1 : (bgR r1 vs ps).p w := hs.res hk
  have h2 : (bgR r2 us qs).p w := hs.res hj
  refine St.merge hs hk hj hkj ((rsOk _ _).2 ⟨fun i v p hv hp => ?_, fun i hi => hi.elim (h1.2 i) (h2.2 i)⟩) (fun i hi => ?_) (fun i hi => ?_)
  · by_cases hlt : i < vs.length
    · rw [List.getElem?_append_left hlt] at hv
      rw [List.getElem?_append_left (by rw [← hl]; exact hlt)] at hp
      obtain ⟨a, c, e, h⟩ := h1.1 i v p hv hp
      exact ⟨a, c, e, fun hne => by obtain ⟨b, o, g1, g2, g3⟩ := h hne; exact ⟨b, o, g1, .inl g2, g3⟩⟩
    · rw [List.getElem?_append_right (by omega)] at hv
      rw [List.getElem?_append_right (by rw [← hl]; omega), ← hl] at hp
      obtain ⟨a, c, e, h⟩ := h2.1 _ v p hv hp
      exact ⟨a, c, e, fun hne => by obtain ⟨b, o, g1, g2, g3⟩ := h hne; exact ⟨b, o, g1, .inr g2, g3⟩⟩
  · rcases (rsW _ _).1 hi with h | h
    · exact .inl ((rsW _ _).2 h)
    · exact .inr ((rsW _ _).2 h)
  · rcases (rsA _ _).1 hi with (h | h) | h
    · exact .inl ((rsA _ _).2 (.inl h))
    · exact .inr ((rsA _ _).2 (.inl h))
    · exact h.elim
theorem rload_bd {q k : Nat} {x : Ld} (h : Rb q k x.D) (last n : Nat) : Rb q (k + 2) (rloadD x last n).1.D ∧ (n < last → (rloadD x last n).1.D = x.D) ∧ 8 * (rloadD x last n).1.pl.length ≤ 8 * x.pl.length + q := by
  unfold rloadD
  cases hf : findF (nameS n) x.D.files with
  | none => exact ⟨h.le (by omega), fun _ => rfl, by show 8 * x.pl.length ≤ _; omega⟩
  | some f =>
    have hfl := h.fz f (findF_mem hf).1
    have hrc := recs_count f.bs
    have hpl : 8 * (x.pl ++ recsP f.bs).length ≤ 8 * x.pl.length + q := by rw [List.length_append]; omega
    dsimp only
    split
    · split
      · exact ⟨h.le (by omega), fun _ => rfl, by show 8 * x.pl.length ≤ _; omega⟩
      · exact ⟨h.le (by omega), fun _ => rfl, hpl⟩
    · refine ⟨?_, fun h2 => absurd h2 (by assumption), hpl⟩
      have h1 : Rb q (k + 1) (if wholeP f.bs < f.bs.length then rcutD x.D (nameS n) (wholeP f.bs : Nat) else (x.D, 0)).1 := by
        split
        · exact h.cut _ _
        · exact h.le (by omega)
      exact h1.then (h1.sync _)
theorem rloadsD_step (k : Nat) (x : Ld) (last n : Nat) : rloadsD (k + 1) x last n = if (rloadD x last n).2 = 0 then rloadsD k (rloadD x last n).1 last (n + 1) else rloadD x last n := rfl
end Go.Proofs.YteamnhpplclmfaaGreatDoor
end
section
namespace Go.Proofs.YteamnhpplclmfaaGreatDoor
open Go.RowKit Go.Sx
set_option linter.unusedVariables false
/-- a store of the reference under way -/
structure Rv where
  M : Dk
  fa : Option Addr
  fc : Nat
  ps : List PF
  rr : Nat → Prop
  r : Sx.Own
  vs : List Value
  rp : Nat → Prop
  S : Sr
abbrev rvS (x : Rv) : Array Value := rsC x.M (.slice x.fa x.ps.length x.fc) x.S (sv x.r x.S.pl.length)
abbrev rvE (x : Rv) : List Ent := [rs (mP x.rr x.fa x.ps), se x.r x.vs TB, rs (bgR x.rp x.vs x.S.pl)]
structure RvOk (rr0 : Nat → Prop) (w : World) (x : Rv) : Prop where
  fs : x.ps.map (·.2) = x.M.files
  sh : PsOk x.fa x.ps
  rr : ∀ j, x.rr j → rr0 j ∨ w.heap.size ≤ j
  row : Rw 1 x.S.pl.length x.r x.vs
  pls : Pls x.vs x.S.pl
theorem RvOk.rfs {rr0 : Nat → Prop} {w u : World} {x : Rv} (h : RvOk rr0 w x) (hp : (mP x.rr x.fa x.ps).p u) : RFs x.rr u (.slice x.fa x.ps.length x.fc) x.M.files := by
  rw [← h.fs]; exact mP_rfs hp
/-- what a function of the reference's store hands back -/
def RefO (rr0 : Nat → Prop) (w : World) (D' : Dk) (S' : Sr) (code : Nat) (e : Ending) (w' : World) : Prop :=
  ∃ x : Rv, RvOk rr0 w x ∧ x.M = D' ∧ (code = 0 → x.S = S') ∧ e = .returned (.tuple #[.agg (rvS x), .int .i64 code]) ∧ St [] w w' (rvE x)
theorem rv_out {rr0 : Nat → Prop} {w w1 : World} {x : Rv} {D' : Dk} {S' : Sr} {code : Nat} {L : List Ent} {v : Value} (hok : RvOk rr0 w x) (hs : St [] w w1 L) (hsub : Sub (rvE x) L) (hM : x.M = D') (hS : code = 0 → x.S = S') (hv : v = .tuple #[.agg (rvS x), .int .i64 code]) : RefO rr0 w D' S' code (.returned v) w1 :=
  ⟨x, hok, hM, hS, by rw [hv], hs.sub hsub⟩
theorem rvS_one (x : Rv) : (rvS x).toList.all (·.oneCell') = true := by
  unfold rvS rsC
  cases x.r <;> rfl
theorem mP_at {rr : Nat → Prop} {fb fo : Nat} {ps : List PF} {u : World} (h : (mP rr (some ⟨fb, fo, none⟩) ps).p u) {i : Nat} (hi : i < ps.length) : u.cell? ⟨fb, fo + i * 3, none⟩ = some (VS ps[i].2.name) ∧ u.cell? ⟨fb, fo + i * 3 + 1, none⟩ = some ps[i].1 := by
  obtain ⟨b, o, e, _, _, hc⟩ := h.1.2 (fun h0 => by rw [h0] at hi; exact absurd hi (by simp))
  injection e with e
  injection e with e1 e2 _
  subst e1 e2
  obtain ⟨c1, c2, _⟩ := rfC_get ps i hi
  exact ⟨hc _ _ c1, by rw [Nat.add_assoc]; exact hc _ _ c2⟩
theorem mP_rd {rr : Nat → Prop} {fa : Option Addr} {ps : List PF} {u : World} (h : (mP rr fa ps).p u) {i : Nat} (hi : i < ps.length) {v : Value} (hv : ps[i].1 = v) : Rd u v (Lib.byteCells ps[i].2.bs) := by
  rw [← hv]; exact (h.1.1 _ (List.getElem_mem hi)).rd
/-- the n-th file -/
theorem find_at {M : Dk} {ps : List PF} (hps : ps.map (·.2) = M.files) {i : Nat} {f : Fe} (hf0 : M.files[i]? = some f) : ∃ hi : i < ps.length, ps[i].2 = f := by
  have hpl : ps.length = M.files.length := by rw [← hps]; simp
  have hi : i < ps.length := by rw [hpl]; exact (List.getElem?_eq_some_iff.1 hf0).1
  refine ⟨hi, ?_⟩
  rw [← hps] at hf0
  have : (ps.map (·.2))[i]? = some ps[i].2 := by simp [hi]
  exact Option.some.inj (this.symm.trans hf0)
theorem Rv.len {rr0 : Nat → Prop} {w : World} {x : Rv} (h : RvOk rr0 w x) : x.ps.length = x.M.files.length := by rw [← h.fs]; simp
end Go.Proofs.YteamnhpplclmfaaGreatDoor
end
section
namespace Go.Proofs.YteamnhpplclmfaaGreatDoor
open Go.RowKit Go.Sx
set_option linter.unusedVariables false
theorem slT {s : Bs} (h : Nat) (hh : h ≤ s.length) {next : Value → Prop} {fb : Prop} {x : Int} (hx : x = h) (go : next (VS (s.take h))) : SliP .str (VS s) none (some x) none next fb := by
  subst hx
  refine ⟨.mk 0 h s.length ?_ ?_ rfl (Nat.zero_le _) hh ?_ (fun e => by cases e) ?_⟩
  · simp [oi, ByteArray.size]
  · simp [oi]
  · simp [ByteArray.size]
  · rw [str_ext, List.drop_zero]; exact go
theorem pre4 (f : Bs) : List.isPrefixOf [115, 101, 103, 45] f = (decide (4 ≤ f.length) && decide (f.take 4 = [115, 101, 103, 45])) := by
  match f with
  | [] => rfl
  | [a] => simp [List.isPrefixOf]
  | [a, b] => simp [List.isPrefixOf]
  | [a, b, c] => simp [List.isPrefixOf]
  | a :: b :: c :: d :: f =>
    rw [show List.isPrefixOf [115, 101, 103, 45] (a :: b :: c :: d :: f) = (115 == a && (101 == b && (103 == c && (45 == d && true)))) from rfl, Bool.eq_iff_iff]
    simp
    constructor
    · rintro ⟨rfl, rfl, rfl, rfl⟩; simp
    · rintro ⟨rfl, rfl, rfl, rfl⟩; simp
theorem rdrops_no (b : Bs) (l : List Bs) : ∀ {x : Dk × Nat}, x.2 ≠ 0 → rdropsD b x l = x := by
  induction l with
  | nil => exact fun _ => rfl
  | cons f l ih =>
    intro x h
    rw [rdropsD]
    split
    · rw [then_no h]; exact ih h
    · exact ih h
/-- the files of a store under way -/
structure Fl where
  M : Dk
  fa : Option Addr
  fc : Nat
  ps : List PF
  rr : Nat → Prop
def Rv.on (x : Rv) (F : Fl) : Rv := ⟨F.M, F.fa, F.fc, F.ps, F.rr, x.r, x.vs, x.rp, x.S⟩
structure RdOk (rr0 : Nat → Prop) (w : World) (x : Rv) (l : List Bs) (q k : Nat) (y : Nat × Fl) : Prop where
  i : y.1 ≤ l.length
  ok : RvOk rr0 w (x.on y.2)
  e : rdropsD (nameS x.S.last) (x.M, 0) l = rdropsD (nameS x.S.last) (y.2.M, 0) (l.drop y.1)
  b : Rb q (k + y.1) y.2.M
set_option maxRecDepth 100000 in
set_option maxHeartbeats 4000000 in
theorem ropen_drops {rr0 : Nat → Prop} {o : OpS} {w : World} {x : Rv} {b4 b6 : Nat} {z : Array Value} (hz : z.size = 11) (hok : RvOk rr0 w x) (hl : x.S.last ≤ 1048576) {q k : Nat} (hB : Rb q k x.M) (hk : k ≤ 400000)
    (hD : o.D = (rdropsD (nameS x.S.last) (x.M, 0) (x.M.files.map (·.name))).1) (hc : o.code = (rdropsD (nameS x.S.last) (x.M, 0) (x.M.files.map (·.name))).2)
    (hS : o.S = { x.S with sure := x.S.pl.length }) : CodeP ⟨Tryz.prog, tab, 194, [], w, none⟩ (dropS 9 ((Tryz.f26.body).getD .skip)) (retK ⟨Tryz.prog, tab, 194, [], w, none⟩ Tryz.f26 (fun v w' => RefO rr0 w o.D o.S o.code (.returned v) w')) ⟨[(4, ptr b4), (6, ptr b6)], rvE x ++ [cl b4 z TRS, cl b6 (rvS x) TRS], []⟩ := by
  have hlen := Rv.len hok
  have hfl := hB.fl
  obtain ⟨l, hll⟩ : ∃ l, l = x.M.files.map (·.name) := ⟨_, rfl⟩
  rw [← hll] at hD hc
  have hl2 : l.length = x.ps.length := by rw [hll, List.length_map, hlen]
  obtain ⟨M, fa, fc, ps, rr, r, vs, rp, S⟩ := x
  dsimp only at hlen hfl hll hD hc hl2 hl hB hS
  refine CodeP.from (L' := [rs (mP rr fa ps), se r vs TB, rs (bgR rp vs S.pl), cl b4 z TRS, cl b6 (rvS ⟨M, fa, fc, ps, rr, r, vs, rp, S⟩) TRS, rs (mP rr fa ps)]) (fun w1 hs => hs.push (e := rs (mP rr fa ps)) (Below.refl _ _) (hs.ok _ (List.mem_of_getElem? (show _[0]? = some (rs (mP rr fa ps)) from rfl))) (fun k hk => by simp [mP] at hk) (fun k hk => .inr ⟨_, List.mem_of_getElem? (show _[0]? = some (rs (mP rr fa ps)) from rfl), hk, by simp [mP]⟩)) ?_
  refine cx_ok tab_ok _ _ _ ?_
  refine ld1 4 rfl (v := .slice fa ps.length fc) rfl ?_
  refine lp tab_ok (RdOk rr0 w ⟨M, fa, fc, ps, rr, r, vs, rp, S⟩ l q k) (fun y => ⟨[(4, ptr b4), (6, ptr b6), (14, .slice fa ps.length fc), (15, .int .i64 y.1)], [rs (mP y.2.rr y.2.fa y.2.ps), se r vs TB, rs (bgR rp vs S.pl), cl b4 z TRS, cl b6 (rvS (Rv.on ⟨M, fa, fc, ps, rr, r, vs, rp, S⟩ y.2)) TRS, rs (mP rr fa ps)], []⟩) (fun y => l.length - y.1)
    (0, ⟨M, fa, fc, ps, rr⟩) ⟨Nat.zero_le _, hok, rfl, hB⟩ ⟨⟨rfl, rfl, rfl, rfl, trivial⟩, Sub.refl _, rfl⟩ ?_
  rintro ⟨i, M', fa', fc', ps', rr'⟩ ⟨hi, hok', he, hb⟩
  dsimp only at hi he hb ⊢
  refine cd (fun h => ?_) (fun h => ?_)
  · have hlt : i < l.length := by omega
    have hip : i < ps.length := by omega
    obtain ⟨fb, fo, rfl⟩ := hok.sh.ad (by show ps ≠ []; intro h0; rw [h0] at hip; exact absurd hip (by simp))
    have hdr : l.drop i = l[i] :: l.drop (i + 1) := List.drop_eq_getElem_cons hlt
    have hnm : l[i] = ps[i].2.name := by
      have h1 : l = ps.map (·.2.name) := by rw [hll, ← show ps.map (·.2) = M.files from hok.fs, List.map_map]; rfl
      simp [h1]
    generalize hf : l[i] = f at hdr hnm
    rw [hdr, rdropsD] at he
    refine ⟨by omega, by omega, ?_⟩
    refine .mk (VS f) (fun w' hs => by simp only [nad_eq, nmu_eq, Int.toNat_natCast]; rw [hnm]; exact (mP_at (hs.res (k := 5) rfl) hip).1) ?_
    have hif : ∀ z : Bool, (List.isPrefixOf [115, 101, 103, 45] f && decide (nameS S.last < f)) = z → rdropsD (nameS S.last) (M, 0) l = rdropsD (nameS S.last) (if z = true then rdropD M' f else (M', 0)) (l.drop (i + 1)) := fun z hz => by
      rw [he, hz]; rfl
    have stay : ∀ (s : Sy), (List.isPrefixOf [115, 101, 103, 45] f && decide (nameS S.last < f)) = false → Le ⟨[(4, ptr b4), (6, ptr b6), (14, .slice (some ⟨fb, fo, none⟩) ps.length fc), (15, .int .i64 ((i + 1 : Nat) : Int))], [rs (mP rr' fa' ps'), se r vs TB, rs (bgR rp vs S.pl), cl b4 z TRS, cl b6 (rvS (Rv.on ⟨M, some ⟨fb, fo, none⟩, fc, ps, rr, r, vs, rp, S⟩ ⟨M', fa', fc', ps', rr'⟩)) TRS, rs (mP rr (some ⟨fb, fo, none⟩) ps)], []⟩ s → ∃ y, RdOk rr0 w ⟨M, some ⟨fb, fo, none⟩, fc, ps, rr, r, vs, rp, S⟩ l q k y ∧ l.length - y.1 < l.length - i ∧ Le ⟨[(4, ptr b4), (6, ptr b6), (14, .slice (some ⟨fb, fo, none⟩) ps.length fc), (15, .int .i64 y.1)], [rs (mP y.2.rr y.2.fa y.2.ps), se r vs TB, rs (bgR rp vs S.pl), cl b4 z TRS, cl b6 (rvS (Rv.on ⟨M, some ⟨fb, fo, none⟩, fc, ps, rr, r, vs, rp, S⟩ y.2)) TRS, rs (mP rr (some ⟨fb, fo, none⟩) ps)], []⟩ s := fun s hz hl =>
      ⟨(i + 1, ⟨M', fa', fc', ps', rr'⟩), ⟨hlt, hok', hif false hz, hb.le (by omega)⟩, by dsimp only; omega, hl⟩
    have hp4 := pre4 f
    by_cases h4 : 4 ≤ f.length
    case neg =>
      have e1 : decide (((f.length : Nat) : Int) ≥ 4) = false := decide_eq_false (by omega)
      have e2 : (decide (((f.length : Nat) : Int) ≥ 4) == true) = false := by rw [e1]; rfl
      repeat (first | refine cf e2 ?_ | refine cf e1 ?_ | refine cf rfl ?_)
      refine .as ((i + 1 : Nat) : Int) (by omega) (by simp only [mn]; omega) (by simp only [mx]; omega) ?_
      exact stay _ (by rw [hp4, decide_eq_false h4]; rfl) ⟨⟨rfl, rfl, rfl, rfl, trivial⟩, Sub.refl _, rfl⟩
    have e1 : decide (((f.length : Nat) : Int) ≥ 4) = true := decide_eq_true (by omega)
    have e2 : (decide (((f.length : Nat) : Int) ≥ 4) == true) = true := by rw [e1]; rfl
    iterate 2 refine ct e2 ?_
    refine slT 4 h4 rfl ?_
    have e3 : ((ByteArray.mk (f.take 4).toArray).toList == (ByteArray.mk #[115, 101, 103, 45]).toList) = decide (f.take 4 = [115, 101, 103, 45]) := str_beq (f.take 4) [115, 101, 103, 45]
    refine ct e2 ?_
    refine ct e1 ?_
    by_cases hp : f.take 4 = [115, 101, 103, 45]
    case neg =>
      rw [decide_eq_false hp] at e3
      have e4 : (((ByteArray.mk (f.take 4).toArray).toList == (ByteArray.mk #[115, 101, 103, 45]).toList) == true) = false := by rw [e3]; rfl
      repeat (first | refine cf e4 ?_ | refine cf e3 ?_ | refine cf rfl ?_)
      refine .as ((i + 1 : Nat) : Int) (by omega) (by simp only [mn]; omega) (by simp only [mx]; omega) ?_
      exact stay _ (by rw [hp4, decide_eq_false hp, Bool.and_false]; rfl) ⟨⟨rfl, rfl, rfl, rfl, trivial⟩, Sub.refl _, rfl⟩
    rw [decide_eq_true hp] at e3
    have e4 : (((ByteArray.mk (f.take 4).toArray).toList == (ByteArray.mk #[115, 101, 103, 45]).toList) == true) = true := by rw [e3]; rfl
    rw [decide_eq_true h4, decide_eq_true hp] at hp4
    iterate 3 refine ct e4 ?_
    refine ld1 4 rfl (v := .int .i64 S.last) rfl ?_
    refine ct e4 ?_
    refine cv (fun w1 => rname_any S.last (by omega) w1) ?_
    refine ct e4 ?_
    refine ct e3 ?_
    have hgt := str_gt f (nameS S.last)
    by_cases hlf : nameS S.last < f
    case neg =>
      refine cf (by rw [hgt]; exact decide_eq_false hlf) ?_
      refine .as ((i + 1 : Nat) : Int) (by omega) (by simp only [mn]; omega) (by simp only [mx]; omega) ?_
      exact stay _ (by rw [hp4, decide_eq_false hlf]; rfl) ⟨⟨rfl, rfl, rfl, rfl, trivial⟩, Sub.refl _, rfl⟩
    refine ct (by rw [hgt]; exact decide_eq_true hlf) ?_
    have hzz := hif true (by rw [hp4, decide_eq_true hlf]; rfl)
    rw [if_pos rfl] at hzz
    refine ldP 4 (d := rdC M' (.slice fa' ps'.length fc')) rfl rfl rfl ?_
    have hst := hb.st
    have hfl' := hb.fl
    refine cRs (M' := (rdropD M' f).1) (code := (rdropD M' f).2) 0 rfl (fun w1 hs => rdrop_any M' _ rr' f (by omega) (by omega) hb.lf w1 (hok'.rfs (hs.res (k := 0) rfl)) (hs.res (k := 0) rfl : (mP rr' fa' ps').p w1).2) (fun ps2 fa2 fc2 rr2 g1 g2 g3 => ?_)
    have hb2 := hb.drop f
    generalize rdropD M' f = y at hzz hb2 g1 ⊢
    refine sP 4 (d := rdC y.1 (.slice fa2 ps2.length fc2)) rfl (by show 0 + 6 ≤ 11; decide) rfl (e := rvS (Rv.on ⟨M, some ⟨fb, fo, none⟩, fc, ps, rr, r, vs, rp, S⟩ ⟨y.1, fa2, fc2, ps2, rr2⟩)) rfl ?_ (by kernel_rfl)
    have hok2 : RvOk rr0 w (Rv.on ⟨M, some ⟨fb, fo, none⟩, fc, ps, rr, r, vs, rp, S⟩ ⟨y.1, fa2, fc2, ps2, rr2⟩) := ⟨g1, g2, fun j hj => by
      rcases g3 j hj with h1 | h1
      · exact hok'.rr j h1
      · exact .inr h1, hok.row, hok.pls⟩
    by_cases hy : y.2 = 0
    · rw [hy]
      refine cf rfl ?_
      refine .as ((i + 1 : Nat) : Int) (by omega) (by simp only [mn]; omega) (by simp only [mx]; omega) ?_
      exact ⟨(i + 1, ⟨y.1, fa2, fc2, ps2, rr2⟩), ⟨hlt, hok2, by rw [hzz, show y = (y.1, 0) from Prod.ext rfl hy], hb2⟩, by dsimp only; omega, ⟨⟨rfl, rfl, rfl, rfl, trivial⟩, Sub.refl _, rfl⟩⟩
    · refine ct (by rw [bne_iff_ne]; omega) ?_
      refine ldN 4 rfl rfl ?_
      refine sN 3 rfl (by rw [hz]; rfl) (rvS_one _) ?_ (by kernel_rfl)
      refine ldN 3 rfl rfl ?_
      rw [rdrops_no _ _ hy] at hzz
      exact ⟨fun w1 hs => rv_out hok2 hs (.cons (.cons (.cons (.drop (.drop (.drop .nil)))))) (by rw [hD, hzz]; rfl) (fun h0 => absurd (by rw [hc, hzz] at h0; exact h0) hy) (by rw [hc, hzz]; rfl)⟩
  · obtain rfl : i = l.length := by omega
    rw [List.drop_length, rdropsD] at he
    refine ld1 4 rfl (v := sv r S.pl.length) rfl ?_
    obtain ⟨va, vc, hva⟩ := sv_sl hok.row
    dsimp only at hva
    rw [hva]
    refine s1e 4 (rvS ⟨M', fa', fc', ps', rr', r, vs, rp, { S with sure := S.pl.length }⟩) rfl (by show 8 < 11; decide) rfl ?_
    refine ldN 4 rfl rfl ?_
    refine sN 3 rfl (by rw [hz]; rfl) (rvS_one _) ?_ (by kernel_rfl)
    refine ldN 3 rfl rfl ?_
    exact ⟨fun w1 hs => rv_out (x := ⟨M', fa', fc', ps', rr', r, vs, rp, { S with sure := S.pl.length }⟩) ⟨hok'.fs, hok'.sh, hok'.rr, hok.row, hok.pls⟩ hs (.cons (.cons (.cons (.drop (.drop (.drop .nil)))))) (by rw [hD, he]) (fun _ => hS.symm) (by rw [hc, he]; rfl)⟩
end Go.Proofs.YteamnhpplclmfaaGreatDoor
end
section
namespace Go.Proofs.YteamnhpplclmfaaGreatDoor
open Go.RowKit Go.Sx
set_option linter.unusedVariables false
structure RlOk (rr0 : Nat → Prop) (w : World) (size last : Nat) (Y : Ld × Nat) (q k n : Nat) (x : Rv) : Prop where
  n1 : 1 ≤ n
  n2 : n ≤ last + 1
  ok : RvOk rr0 w x
  S : x.S = ⟨size, x.S.pl, 0, last, x.S.length, 0⟩
  go : rloadsD (last + 1 - n) ⟨x.M, x.S.pl, x.S.length⟩ last n = Y
  bd : Rb q (k + 2) x.M
  bd0 : n ≤ last → Rb q k x.M
  pl : 8 * x.S.pl.length ≤ q * (n - 1)
set_option maxRecDepth 100000 in
set_option maxHeartbeats 4000000 in
theorem ropen_loads {rr0 : Nat → Prop} {o : OpS} {w : World} {size last b4 b6 : Nat} {z : Array Value} (hz : z.size = 11) (hl : last ≤ 1048576) {q k : Nat} (hk : k ≤ 300000) (hq : q ≤ 16777216) {Y : Ld × Nat}
    (hno : Y.2 ≠ 0 → o.code = Y.2 ∧ o.D = Y.1.D) {x0 : Rv} (hok0 : RvOk rr0 w x0) (hS0 : x0.S = ⟨size, [], 0, last, 0, 0⟩) (hl1 : 1 ≤ last) (hB : Rb q k x0.M) (hY : Y = rloadsD last ⟨x0.M, [], 0⟩ last 1)
    (hyes : Y.2 = 0 → o.S = ⟨size, Y.1.pl, Y.1.pl.length, last, Y.1.length, 0⟩ ∧ o.D = (rdropsD (nameS last) (Y.1.D, 0) (Y.1.D.files.map (·.name))).1 ∧ o.code = (rdropsD (nameS last) (Y.1.D, 0) (Y.1.D.files.map (·.name))).2) :
    CodeP ⟨Tryz.prog, tab, 194, [], w, none⟩ (dropS 8 ((Tryz.f26.body).getD .skip)) (retK ⟨Tryz.prog, tab, 194, [], w, none⟩ Tryz.f26 (fun v w' => RefO rr0 w o.D o.S o.code (.returned v) w')) ⟨[(4, ptr b4), (6, ptr b6), (7, .int .i64 0)], rvE x0 ++ [cl b4 z TRS, cl b6 (rvS x0) TRS], []⟩ := by
  refine cutS tab_ok (RlOk rr0 w size last Y q k (last + 1)) (fun y => ⟨[(4, ptr b4), (6, ptr b6)], rvE y ++ [cl b4 z TRS, cl b6 (rvS y) TRS], []⟩) 1 ?_ (fun y hy => ?_)
  case refine_2 =>
    have hgo := hy.go
    rw [Nat.sub_self] at hgo
    have hY2 : Y = (⟨y.M, y.S.pl, y.S.length⟩, 0) := hgo.symm
    obtain ⟨h1, h2, h3⟩ := hyes (by rw [hY2])
    rw [hY2] at h1 h2 h3
    have hSl : y.S.last = last := by rw [hy.S]
    exact ropen_drops hz hy.ok (by rw [hSl]; exact hl) hy.bd (by omega) (by rw [hSl]; exact h2) (by rw [hSl]; exact h3) (by rw [h1, hy.S])
  refine lp tab_ok (fun y : Nat × Rv => RlOk rr0 w size last Y q k y.1 y.2) (fun y => ⟨[(4, ptr b4), (6, ptr b6), (7, .int .i64 0), (8, .int .i64 y.1)], rvE y.2 ++ [cl b4 z TRS, cl b6 (rvS y.2) TRS], []⟩) (fun y => last + 1 - y.1)
    (1, x0) ⟨Nat.le_refl _, by omega, hok0, by rw [hS0], by rw [hS0, hY]; rfl, hB.le (by omega), fun _ => hB, by rw [hS0]; exact Nat.zero_le _⟩ ⟨⟨rfl, rfl, rfl, rfl, trivial⟩, Sub.refl _, rfl⟩ ?_
  rintro ⟨n, M, fa, fc, ps, rr, r, vs, rp, S⟩ hx
  have hok := hx.ok
  have hSe := hx.S
  have hgo := hx.go
  have hn1 := hx.n1
  have hnl := hx.n2
  have hpl := hx.pl
  have hbd0 := hx.bd0
  have hbd := hx.bd
  dsimp only at hSe hgo hn1 hnl hpl hbd0 hbd hok ⊢
  have hSl : S.last = last := by rw [hSe]
  refine ld1 4 rfl (v := .int .i64 S.last) rfl ?_
  by_cases hle : n ≤ last
  case neg =>
    refine cf (decide_eq_false (by omega)) ?_
    obtain rfl : n = last + 1 := by omega
    exact ⟨⟨M, fa, fc, ps, rr, r, vs, rp, S⟩, hx, ⟨⟨rfl, rfl, trivial⟩, Sub.refl _, rfl⟩⟩
  refine ct (decide_eq_true (by omega)) ?_
  have hB0 := hbd0 hle
  have hfl := hB0.fl
  have hqn : q * (n - 1) ≤ 16777216 * 1048576 := Nat.mul_le_mul hq (by omega)
  have hqn2 : q * (n + 1 - 1) = q * (n - 1) + q := by rw [Nat.add_sub_cancel, ← Nat.mul_succ, show (n - 1).succ = n by omega]
  rw [show last + 1 - n = (last - n) + 1 by omega, rloadsD_step] at hgo
  have hrb := rload_bd (x := ⟨M, S.pl, S.length⟩) hB0 last n
  refine dr [rs (mP rr fa ps), dead, dead, dead, cl b6 (rvS ⟨M, fa, fc, ps, rr, r, vs, rp, S⟩) TRS] 99 (.t 0 (.t 1 (.t 2 (.t 3 (.t 4 (.n 5 .nil)))))) tab_ok mixed_ok (by kernel_rfl) (.cons (.dead (.dead (.dead (.cons .nil))))) ?_
  refine ldP 4 (d := rdC M (.slice fa ps.length fc)) rfl rfl rfl ?_
  refine cz (fun w1 => rname_any n (by omega) w1) ?_
  refine czs (fun w1 hs => rat_any M _ M.files rr (nameS n) (by omega) w1 (hok.rfs (hs.res (k := 0) rfl))) ?_
  rcases at_find (nameS n) M.files with ⟨hf1, hf2⟩ | ⟨i, f, hf0, hf1, hf2⟩
  · rw [hf2]
    have e0 : rloadD ⟨M, S.pl, S.length⟩ last n = (⟨M, S.pl, S.length⟩, if n < last then 6 else 0) := by unfold rloadD; dsimp only; rw [hf1]
    rw [e0] at hgo
    refine ⟨(.cons (.dead (.dead (.dead (.cons .nil))))), ?_⟩
    iterate 3 refine ct rfl ?_
    refine ld1 4 rfl (v := .int .i64 S.last) rfl ?_
    iterate 2 refine ct rfl ?_
    by_cases hlt : n < last
    · rw [if_pos hlt, if_neg (show ¬ (6 : Nat) = 0 by decide)] at hgo
      refine ct (decide_eq_true (by omega)) ?_
      refine ldN 4 rfl rfl ?_
      refine sN 3 rfl (by rw [hz]; rfl) (rvS_one _) ?_ (by kernel_rfl)
      refine ldN 3 rfl rfl ?_
      have hny : Y.2 ≠ 0 := by rw [← hgo]; exact (show ¬ (6 : Nat) = 0 by decide)
      exact ⟨fun w1 hs => rv_out hok hs (.cons (.cons (.cons (.drop (.drop .nil))))) (by have e := (hno hny).2; rw [← hgo] at e; exact e.symm) (fun h0 => absurd ((hno hny).1.symm.trans h0) hny) (by rw [(hno hny).1, ← hgo]; rfl)⟩
    · rw [if_neg hlt, if_pos rfl] at hgo
      refine cf (decide_eq_false (by omega)) ?_
      refine ct rfl ?_
      refine .as ((n + 1 : Nat) : Int) (by omega) (by simp only [mn]; omega) (by simp only [mx]; omega) ?_
      exact ⟨(n + 1, ⟨M, fa, fc, ps, rr, r, vs, rp, S⟩), ⟨by omega, by omega, hok, hSe, by rw [show last + 1 - (n + 1) = last - n by omega]; exact hgo, hbd, fun h => hB0, by dsimp only; omega⟩, by dsimp only; omega, ⟨⟨rfl, rfl, rfl, rfl, trivial⟩, Sub.refl _, rfl⟩⟩
  rw [hf2]
  have q1 : decide (((i : Nat) : Int) < 0) = false := decide_eq_false (by omega)
  have q2 : (decide (((i : Nat) : Int) < 0) == true) = false := by rw [q1]; rfl
  obtain ⟨hip, hpf⟩ := find_at (ps := ps) hok.fs hf0
  obtain ⟨fb, fo, rfl⟩ := hok.sh.ad (by show ps ≠ []; intro h0; rw [h0] at hip; exact absurd hip (by simp))
  obtain ⟨qa, qc, hq0, hqc, hqs⟩ := hok.sh.sh ps[i] (List.getElem_mem hip)
  rw [hpf] at hq0 hqc
  have hflen := hB0.fz f (findF_mem hf1).1
  have hrd : ∀ w1, (mP rr (some ⟨fb, fo, none⟩) ps).p w1 → Rd w1 (.slice qa f.bs.length qc) (Lib.byteCells f.bs) := fun w1 h => by have := mP_rd h hip hq0; rwa [hpf] at this
  have e0 : rloadD ⟨M, S.pl, S.length⟩ last n = (if n < last then (if wholeP f.bs < f.bs.length then (⟨M, S.pl, S.length⟩, 6) else (⟨M, S.pl ++ recsP f.bs, S.length⟩, 0))
    else (⟨(thenD (if wholeP f.bs < f.bs.length then rcutD M (nameS n) (wholeP f.bs : Nat) else (M, 0)) fun D => rsyncD D (nameS n)).1, S.pl ++ recsP f.bs, wholeP f.bs⟩, (thenD (if wholeP f.bs < f.bs.length then rcutD M (nameS n) (wholeP f.bs : Nat) else (M, 0)) fun D => rsyncD D (nameS n)).2)) := by unfold rloadD; dsimp only; rw [hf1]
  rw [e0] at hgo
  refine ⟨(.cons (.dead (.dead (.dead (.cons .nil))))), ?_⟩
  iterate 4 refine cf q2 ?_
  refine cf q1 ?_
  refine cf rfl ?_
  refine cf q1 ?_
  refine ld1 4 rfl (v := .slice (some ⟨fb, fo, none⟩) ps.length fc) rfl ?_
  refine ⟨by omega, by omega, ?_⟩
  refine .mk (.slice qa f.bs.length qc) (fun w' hs => by simp only [nad_eq, nmu_eq, Int.toNat_natCast]; rw [← hq0]; exact (mP_at (hs.res (k := 0) rfl) hip).2) ?_
  refine cvs (fun w1 hs => rwhole_any qa f.bs qc hqc (by omega) hqs w1 (hrd w1 (hs.res (k := 0) rfl))) ?_
  refine ld1 4 rfl (v := .int .i64 S.last) rfl ?_
  by_cases hlt : n < last
  · have d1 : decide ((n : Int) < (S.last : Int)) = true := decide_eq_true (by omega)
    have d2 : (decide ((n : Int) < (S.last : Int)) == true) = true := by rw [d1]; rfl
    rw [if_pos hlt] at hgo
    iterate 4 refine ct d2 ?_
    refine ct d1 ?_
    by_cases hw : wholeP f.bs < f.bs.length
    · rw [if_pos hw, if_neg (show ¬ (6 : Nat) = 0 by decide)] at hgo
      refine ct (decide_eq_true (by omega)) ?_
      refine ldN 4 rfl rfl ?_
      refine sN 3 rfl (by rw [hz]; rfl) (rvS_one _) ?_ (by kernel_rfl)
      refine ldN 3 rfl rfl ?_
      have hny : Y.2 ≠ 0 := by rw [← hgo]; exact (show ¬ (6 : Nat) = 0 by decide)
      exact ⟨fun w1 hs => rv_out hok hs (.cons (.cons (.cons (.drop (.drop .nil))))) (by have e := (hno hny).2; rw [← hgo] at e; exact e.symm) (fun h0 => absurd ((hno hny).1.symm.trans h0) hny) (by rw [(hno hny).1, ← hgo]; rfl)⟩
    rw [if_neg hw, if_pos rfl] at hgo
    refine cf (decide_eq_false (by omega)) ?_
    refine cMs (α := AllY) (Φ := fun y => recsP f.bs = y.ps ∧ AllOk f.bs y) (v := fun y => sv y.r y.ps.length) (es := allL) (fun w1 hs => (rall_any qa f.bs qc hqc (by omega) hqs w1 (hrd w1 (hs.res (k := 0) rfl))).mono fun e w' ⟨y, h1, h2, h3, h4⟩ => ⟨y, ⟨h1, h2⟩, h3, h4⟩) (fun _ _ => allL_A) (fun y hy => ?_)
    obtain ⟨qs, yr, yvs, yrr⟩ := y
    obtain ⟨hqs1, hyk⟩ := hy
    have hyrow := hyk.row
    have hypls := hyk.pls
    dsimp only at hqs1 hyrow hypls ⊢
    have hylen : yvs.length = qs.length := hypls.len
    have hrc := recs_count f.bs
    rw [hqs1] at hrc hgo
    obtain ⟨ya, yc, hya⟩ := sv_sl hyrow
    rw [hya]
    refine LoopP.from (L' := [rs (mP rr (some ⟨fb, fo, none⟩) ps), se r vs TB, rs (bgR (fun i => rp i ∨ yrr i) (vs ++ yvs) (S.pl ++ qs)), cl b4 z TRS, cl b6 (rvS ⟨M, (some ⟨fb, fo, none⟩), fc, ps, rr, r, vs, rp, S⟩) TRS, se yr (recC 0 yvs qs) TRec, dead]) (fun w1 hs => bg_join (k := 2) (j := 6) hs rfl rfl (by decide) hok.pls.len) ?_
    refine lp tab_ok (fun y : Nat × Sx.Own => y.1 ≤ qs.length ∧ Rw 1 (S.pl.length + y.1) y.2 (vs ++ yvs.take y.1)) (fun y => ⟨[(4, ptr b4), (6, ptr b6), (7, .int .i64 0), (8, .int .i64 n), (10, .slice qa f.bs.length qc), (11, .int .i64 (wholeP f.bs : Nat)), (12, .slice ya qs.length yc), (13, .int .i64 y.1)], [rs (mP rr (some ⟨fb, fo, none⟩) ps), se y.2 (vs ++ yvs.take y.1) TB, rs (bgR (fun i => rp i ∨ yrr i) (vs ++ yvs) (S.pl ++ qs)), cl b4 z TRS, cl b6 (rsC M (.slice (some ⟨fb, fo, none⟩) ps.length fc) S (sv y.2 (S.pl.length + y.1))) TRS, se yr (recC 0 yvs qs) TRec], []⟩) (fun y => qs.length - y.1) (0, r) ⟨Nat.zero_le _, by rw [List.take_zero, List.append_nil]; exact hok.row⟩ ⟨⟨rfl, rfl, rfl, rfl, rfl, rfl, rfl, rfl, trivial⟩, by rw [List.take_zero, List.append_nil]; exact (.cons (.cons (.cons (.cons (.cons (.cons (.drop .nil))))))), rfl⟩ ?_
    rintro ⟨k2, r1⟩ ⟨hk2, hr1⟩
    dsimp only at hk2 hr1 ⊢
    refine cd (fun h => ?_) (fun h => ?_)
    · have hlt2 : k2 < qs.length := by omega
      obtain ⟨pa, pc, hpv⟩ := hypls.at (i := k2) (p := qs[k2]) (by simp [hlt2])
      obtain ⟨c1, c2⟩ := recC_at 0 yvs qs k2 _ hylen hpv
      cases yr with
      | none => exact absurd (show qs.length = 0 from hyrow.2) (by omega)
      | some yq =>
      obtain ⟨yb, ycap, yj⟩ := yq
      injection hya with ha1 _ _
      subst ha1
      have k2c : (recC 0 yvs qs ++ yj).toArray[2 * k2 + 1]? = some (.slice pa qs[k2].length pc) := by rw [List.getElem?_toArray, List.getElem?_append_left (List.getElem?_eq_some_iff.1 c2).1]; exact c2
      refine dr [dead, dead, dead, dead, cl b6 (rsC M (.slice (some ⟨fb, fo, none⟩) ps.length fc) S (sv r1 (S.pl.length + k2))) TRS, cl yb (recC 0 yvs qs ++ yj).toArray TRec] 10 (.t 0 (.t 1 (.t 2 (.t 3 (.t 4 (.t 5 (.t 6 (.n 7 (.n 8 (.n 9 (.n 10 .nil))))))))))) tab_ok mixed_ok (by kernel_rfl) (.dead (.dead (.dead (.dead (.cons (.cons .nil)))))) ?_
      refine ld1 4 rfl (v := sv r1 (S.pl.length + k2)) rfl ?_
      refine ⟨by omega, by omega, ?_⟩
      refine ld1 5 rfl (v := .slice pa qs[k2].length pc) (by simp only [nad_eq, nmu_eq, Int.toNat_natCast]; rw [show 0 + k2 * 2 + 1 = 2 * k2 + 1 by omega]; exact k2c) ?_
      refine .mk _ _ (bsS1 _ _ _) (fun b12 => ?_)
      refine ⟨(.dead (.dead (.dead (.dead (.cons (.cons .nil)))))), ?_⟩
      refine ap1 1 6 tab_ok rfl infoS rfl rfl hr1 rfl rfl (by omega) (by unfold maxLen; omega) (fun r2 hr2 => ?_)
      iterate 2 refine ⟨(.dead (.dead (.dead (.dead (.cons (.cons .nil)))))), ?_⟩
      refine s1 4 rfl (by show 7 < 11; decide) ?_ (h1 := by cases r2 <;> rfl) (hv := by cases r2 <;> rfl)
      refine .as ((k2 + 1 : Nat) : Int) (by omega) (by simp only [mn]; omega) (by simp only [mx]; omega) ?_
      have htk : vs ++ yvs.take (k2 + 1) = vs ++ yvs.take k2 ++ [.slice pa qs[k2].length pc] := by rw [List.take_add_one, hpv, List.append_assoc]; rfl
      refine ⟨(k2 + 1, r2), ⟨hlt2, by show Rw 1 (S.pl.length + (k2 + 1)) r2 (vs ++ yvs.take (k2 + 1)); rw [htk]; exact hr2⟩, by dsimp only; omega, ⟨⟨rfl, rfl, rfl, rfl, rfl, rfl, rfl, rfl, trivial⟩, ?_, rfl⟩⟩
      dsimp only
      rw [htk]
      exact (.cons (.cons (.cons (.cons (.cons (.cons .nil))))))
    obtain rfl : k2 = qs.length := by omega
    rw [show yvs.take qs.length = yvs by rw [← hylen]; exact List.take_length, show S.pl.length + qs.length = (S.pl ++ qs).length from List.length_append.symm] at hr1 ⊢
    
    refine ld1 4 rfl (v := .int .i64 S.last) rfl ?_
    refine ct d1 ?_
    refine .as ((n + 1 : Nat) : Int) (by omega) (by simp only [mn]; omega) (by simp only [mx]; omega) ?_
    refine ⟨(n + 1, ⟨M, (some ⟨fb, fo, none⟩), fc, ps, rr, r1, vs ++ yvs, fun i => rp i ∨ yrr i, { S with pl := S.pl ++ qs }⟩), ⟨by omega, by omega, ⟨hok.fs, hok.sh, hok.rr, hr1, hok.pls.app hypls⟩, by rw [hSe], by rw [show last + 1 - (n + 1) = last - n by omega]; exact hgo, hbd, fun h => hB0, by dsimp only; rw [hqn2, List.length_append]; omega⟩, by dsimp only; omega, ⟨⟨rfl, rfl, rfl, rfl, trivial⟩, (.cons (.cons (.cons (.cons (.cons (.drop .nil)))))), rfl⟩⟩
  have d1 : decide ((n : Int) < (S.last : Int)) = false := decide_eq_false (by omega)
  have d2 : (decide ((n : Int) < (S.last : Int)) == true) = false := by rw [d1]; rfl
  rw [if_neg hlt] at hgo
  iterate 4 refine cf d2 ?_
  refine cf d1 ?_
  refine cf rfl ?_
  refine cMs (α := AllY) (Φ := fun y => recsP f.bs = y.ps ∧ AllOk f.bs y) (v := fun y => sv y.r y.ps.length) (es := allL) (fun w1 hs => (rall_any qa f.bs qc hqc (by omega) hqs w1 (hrd w1 (hs.res (k := 0) rfl))).mono fun e w' ⟨y, h1, h2, h3, h4⟩ => ⟨y, ⟨h1, h2⟩, h3, h4⟩) (fun _ _ => allL_A) (fun y hy => ?_)
  obtain ⟨qs, yr, yvs, yrr⟩ := y
  obtain ⟨hqs1, hyk⟩ := hy
  have hyrow := hyk.row
  have hypls := hyk.pls
  dsimp only at hqs1 hyrow hypls ⊢
  have hylen : yvs.length = qs.length := hypls.len
  have hrc := recs_count f.bs
  rw [hqs1] at hrc hgo
  obtain ⟨ya, yc, hya⟩ := sv_sl hyrow
  rw [hya]
  refine LoopP.from (L' := [rs (mP rr (some ⟨fb, fo, none⟩) ps), se r vs TB, rs (bgR (fun i => rp i ∨ yrr i) (vs ++ yvs) (S.pl ++ qs)), cl b4 z TRS, cl b6 (rvS ⟨M, (some ⟨fb, fo, none⟩), fc, ps, rr, r, vs, rp, S⟩) TRS, se yr (recC 0 yvs qs) TRec, dead]) (fun w1 hs => bg_join (k := 2) (j := 6) hs rfl rfl (by decide) hok.pls.len) ?_
  refine lp tab_ok (fun y : Nat × Sx.Own => y.1 ≤ qs.length ∧ Rw 1 (S.pl.length + y.1) y.2 (vs ++ yvs.take y.1)) (fun y => ⟨[(4, ptr b4), (6, ptr b6), (7, .int .i64 0), (8, .int .i64 n), (10, .slice qa f.bs.length qc), (11, .int .i64 (wholeP f.bs : Nat)), (12, .slice ya qs.length yc), (13, .int .i64 y.1)], [rs (mP rr (some ⟨fb, fo, none⟩) ps), se y.2 (vs ++ yvs.take y.1) TB, rs (bgR (fun i => rp i ∨ yrr i) (vs ++ yvs) (S.pl ++ qs)), cl b4 z TRS, cl b6 (rsC M (.slice (some ⟨fb, fo, none⟩) ps.length fc) S (sv y.2 (S.pl.length + y.1))) TRS, se yr (recC 0 yvs qs) TRec], []⟩) (fun y => qs.length - y.1) (0, r) ⟨Nat.zero_le _, by rw [List.take_zero, List.append_nil]; exact hok.row⟩ ⟨⟨rfl, rfl, rfl, rfl, rfl, rfl, rfl, rfl, trivial⟩, by rw [List.take_zero, List.append_nil]; exact (.cons (.cons (.cons (.cons (.cons (.cons (.drop .nil))))))), rfl⟩ ?_
  rintro ⟨k2, r1⟩ ⟨hk2, hr1⟩
  dsimp only at hk2 hr1 ⊢
  refine cd (fun h => ?_) (fun h => ?_)
  · have hlt2 : k2 < qs.length := by omega
    obtain ⟨pa, pc, hpv⟩ := hypls.at (i := k2) (p := qs[k2]) (by simp [hlt2])
    obtain ⟨c1, c2⟩ := recC_at 0 yvs qs k2 _ hylen hpv
    cases yr with
    | none => exact absurd (show qs.length = 0 from hyrow.2) (by omega)
    | some yq =>
    obtain ⟨yb, ycap, yj⟩ := yq
    injection hya with ha1 _ _
    subst ha1
    have k2c : (recC 0 yvs qs ++ yj).toArray[2 * k2 + 1]? = some (.slice pa qs[k2].length pc) := by rw [List.getElem?_toArray, List.getElem?_append_left (List.getElem?_eq_some_iff.1 c2).1]; exact c2
    refine dr [dead, dead, dead, dead, cl b6 (rsC M (.slice (some ⟨fb, fo, none⟩) ps.length fc) S (sv r1 (S.pl.length + k2))) TRS, cl yb (recC 0 yvs qs ++ yj).toArray TRec] 10 (.t 0 (.t 1 (.t 2 (.t 3 (.t 4 (.t 5 (.t 6 (.n 7 (.n 8 (.n 9 (.n 10 .nil))))))))))) tab_ok mixed_ok (by kernel_rfl) (.dead (.dead (.dead (.dead (.cons (.cons .nil)))))) ?_
    refine ld1 4 rfl (v := sv r1 (S.pl.length + k2)) rfl ?_
    refine ⟨by omega, by omega, ?_⟩
    refine ld1 5 rfl (v := .slice pa qs[k2].length pc) (by simp only [nad_eq, nmu_eq, Int.toNat_natCast]; rw [show 0 + k2 * 2 + 1 = 2 * k2 + 1 by omega]; exact k2c) ?_
    refine .mk _ _ (bsS1 _ _ _) (fun b12 => ?_)
    refine ⟨(.dead (.dead (.dead (.dead (.cons (.cons .nil)))))), ?_⟩
    refine ap1 1 6 tab_ok rfl infoS rfl rfl hr1 rfl rfl (by omega) (by unfold maxLen; omega) (fun r2 hr2 => ?_)
    iterate 2 refine ⟨(.dead (.dead (.dead (.dead (.cons (.cons .nil)))))), ?_⟩
    refine s1 4 rfl (by show 7 < 11; decide) ?_ (h1 := by cases r2 <;> rfl) (hv := by cases r2 <;> rfl)
    refine .as ((k2 + 1 : Nat) : Int) (by omega) (by simp only [mn]; omega) (by simp only [mx]; omega) ?_
    have htk : vs ++ yvs.take (k2 + 1) = vs ++ yvs.take k2 ++ [.slice pa qs[k2].length pc] := by rw [List.take_add_one, hpv, List.append_assoc]; rfl
    refine ⟨(k2 + 1, r2), ⟨hlt2, by show Rw 1 (S.pl.length + (k2 + 1)) r2 (vs ++ yvs.take (k2 + 1)); rw [htk]; exact hr2⟩, by dsimp only; omega, ⟨⟨rfl, rfl, rfl, rfl, rfl, rfl, rfl, rfl, trivial⟩, ?_, rfl⟩⟩
    dsimp only
    rw [htk]
    exact (.cons (.cons (.cons (.cons (.cons (.cons .nil))))))
  obtain rfl : k2 = qs.length := by omega
  rw [show yvs.take qs.length = yvs by rw [← hylen]; exact List.take_length, show S.pl.length + qs.length = (S.pl ++ qs).length from List.length_append.symm] at hr1 ⊢
  
  refine ld1 4 rfl (v := .int .i64 S.last) rfl ?_
  refine cf d1 ?_
  have hokX : RvOk rr0 w ⟨M, (some ⟨fb, fo, none⟩), fc, ps, rr, r1, vs ++ yvs, fun i => rp i ∨ yrr i, { S with pl := S.pl ++ qs, length := wholeP f.bs }⟩ := ⟨hok.fs, hok.sh, hok.rr, hr1, hok.pls.app hypls⟩
  by_cases hw : wholeP f.bs < f.bs.length
  · rw [if_pos hw] at hgo
    refine ct (decide_eq_true (by omega)) ?_
    have hb1 := hB0.cut (nameS n) (wholeP f.bs : Nat)
    obtain ⟨y1, hy1⟩ : ∃ y1, y1 = rcutD M (nameS n) (wholeP f.bs : Nat) := ⟨_, rfl⟩
    rw [← hy1] at hgo hb1
    refine cut (α := Fl) (fun F => F.M = y1.1 ∧ RvOk rr0 w (Rv.on ⟨M, (some ⟨fb, fo, none⟩), fc, ps, rr, r1, vs ++ yvs, fun i => rp i ∨ yrr i, { S with pl := S.pl ++ qs, length := wholeP f.bs }⟩ F)) (fun F => ⟨[(4, ptr b4), (6, ptr b6), (7, .int .i64 y1.2), (8, .int .i64 n)], [rs (mP F.rr F.fa F.ps), se r1 (vs ++ yvs) TB, rs (bgR (fun i => rp i ∨ yrr i) (vs ++ yvs) (S.pl ++ qs)), cl b4 z TRS, cl b6 (rvS (Rv.on ⟨M, (some ⟨fb, fo, none⟩), fc, ps, rr, r1, vs ++ yvs, fun i => rp i ∨ yrr i, { S with pl := S.pl ++ qs, length := wholeP f.bs }⟩ F)) TRS], []⟩) ?_ ?_
    · refine drs [dead, dead, dead, dead, cl b6 (rvS ⟨M, (some ⟨fb, fo, none⟩), fc, ps, rr, r1, vs ++ yvs, fun i => rp i ∨ yrr i, { S with pl := S.pl ++ qs, length := wholeP f.bs }⟩) TRS] [7, 8, 9, 10, 11] (.t 0 (.t 1 (.t 2 (.t 3 (.t 4 (.n 5 (.t 6 (.b 7 8 (.b 8 9 (.n 9 (.n 10 (.n 11 .nil))) (.b 8 10 (.n 10 (.n 11 .nil)) (.n 8 (.n 11 .nil)))) (.n 7 (.n 9 (.n 10 (.n 11 .nil)))))))))))) tab_ok mixed_ok (by kernel_rfl) (.dead (.dead (.dead (.dead (.cons (.drop .nil)))))) ?_
      refine ldP 4 (d := rdC M (.slice (some ⟨fb, fo, none⟩) ps.length fc)) rfl rfl rfl ?_
      refine cz (fun w1 => rname_any n (by omega) w1) ?_
      refine cRs (M' := y1.1) (code := y1.2) 0 rfl (fun w1 hs => by rw [hy1]; exact rcut_any M _ rr (nameS n) _ (by omega) (fun g hg => Nat.le_trans (hB0.fz g hg) hq) (by have := hB0.st; omega) hB0.lf w1 (hok.rfs (hs.res (k := 0) rfl)) (hs.res (k := 0) rfl : (mP rr _ ps).p w1).2) (fun ps2 fa2 fc2 rr2 g1 g2 g3 => ?_)
      refine ⟨(.dead (.dead (.dead (.dead (.cons (.drop .nil)))))), ?_⟩
      refine ⟨?_, ?_⟩
      · refine ⟨?_, ?_⟩
        · refine sP 4 (d := rdC y1.1 (.slice fa2 ps2.length fc2)) rfl (by show 0 + 6 ≤ 11; decide) rfl (e := rvS (Rv.on ⟨M, (some ⟨fb, fo, none⟩), fc, ps, rr, r1, vs ++ yvs, fun i => rp i ∨ yrr i, { S with pl := S.pl ++ qs, length := wholeP f.bs }⟩ ⟨y1.1, fa2, fc2, ps2, rr2⟩)) rfl ?_ (by kernel_rfl)
          exact ⟨⟨y1.1, fa2, fc2, ps2, rr2⟩, ⟨rfl, ⟨g1, g2, fun j hj => (g3 j hj).elim (hokX.rr j) .inr, hr1, hok.pls.app hypls⟩⟩, ⟨⟨rfl, rfl, rfl, rfl, trivial⟩, (.cons (.cons (.cons (.cons (.cons (.drop .nil)))))), rfl⟩⟩
        · refine ⟨?_, ?_⟩
          · refine sP 4 (d := rdC y1.1 (.slice fa2 ps2.length fc2)) rfl (by show 0 + 6 ≤ 11; decide) rfl (e := rvS (Rv.on ⟨M, (some ⟨fb, fo, none⟩), fc, ps, rr, r1, vs ++ yvs, fun i => rp i ∨ yrr i, { S with pl := S.pl ++ qs, length := wholeP f.bs }⟩ ⟨y1.1, fa2, fc2, ps2, rr2⟩)) rfl ?_ (by kernel_rfl)
            exact ⟨⟨y1.1, fa2, fc2, ps2, rr2⟩, ⟨rfl, ⟨g1, g2, fun j hj => (g3 j hj).elim (hokX.rr j) .inr, hr1, hok.pls.app hypls⟩⟩, ⟨⟨rfl, rfl, rfl, rfl, trivial⟩, (.cons (.cons (.cons (.cons (.cons (.drop .nil)))))), rfl⟩⟩
          · refine sP 4 (d := rdC y1.1 (.slice fa2 ps2.length fc2)) rfl (by show 0 + 6 ≤ 11; decide) rfl (e := rvS (Rv.on ⟨M, (some ⟨fb, fo, none⟩), fc, ps, rr, r1, vs ++ yvs, fun i => rp i ∨ yrr i, { S with pl := S.pl ++ qs, length := wholeP f.bs }⟩ ⟨y1.1, fa2, fc2, ps2, rr2⟩)) rfl ?_ (by kernel_rfl)
            exact ⟨⟨y1.1, fa2, fc2, ps2, rr2⟩, ⟨rfl, ⟨g1, g2, fun j hj => (g3 j hj).elim (hokX.rr j) .inr, hr1, hok.pls.app hypls⟩⟩, ⟨⟨rfl, rfl, rfl, rfl, trivial⟩, (.cons (.cons (.cons (.cons (.cons (.drop .nil)))))), rfl⟩⟩
      · refine sP 4 (d := rdC y1.1 (.slice fa2 ps2.length fc2)) rfl (by show 0 + 6 ≤ 11; decide) rfl (e := rvS (Rv.on ⟨M, (some ⟨fb, fo, none⟩), fc, ps, rr, r1, vs ++ yvs, fun i => rp i ∨ yrr i, { S with pl := S.pl ++ qs, length := wholeP f.bs }⟩ ⟨y1.1, fa2, fc2, ps2, rr2⟩)) rfl ?_ (by kernel_rfl)
        exact ⟨⟨y1.1, fa2, fc2, ps2, rr2⟩, ⟨rfl, ⟨g1, g2, fun j hj => (g3 j hj).elim (hokX.rr j) .inr, hr1, hok.pls.app hypls⟩⟩, ⟨⟨rfl, rfl, rfl, rfl, trivial⟩, (.cons (.cons (.cons (.cons (.cons (.drop .nil)))))), rfl⟩⟩
    rintro ⟨M1, fa1, fc1, ps1, rr1⟩ ⟨hF1, hok1⟩
    dsimp only at hF1 hok1 ⊢
    subst hF1
    by_cases hc1 : y1.2 = 0
    case neg =>
      rw [show thenD y1 (fun D => rsyncD D (nameS n)) = y1 from if_neg hc1, if_neg hc1] at hgo
      refine ct (by rw [bne_iff_ne]; omega) ?_
      refine ldN 4 rfl rfl ?_
      refine sN 3 rfl (by rw [hz]; rfl) (rvS_one _) ?_ (by kernel_rfl)
      refine ldN 3 rfl rfl ?_
      have hny : Y.2 ≠ 0 := by rw [← hgo]; exact hc1
      exact ⟨fun w1 hs => rv_out hok1 hs (.cons (.cons (.cons (.drop (.drop .nil))))) (by have e := (hno hny).2; rw [← hgo] at e; exact e.symm) (fun h0 => absurd ((hno hny).1.symm.trans h0) hny) (by rw [(hno hny).1, ← hgo]; rfl)⟩
    rw [show thenD y1 (fun D => rsyncD D (nameS n)) = rsyncD y1.1 (nameS n) from if_pos hc1] at hgo
    rw [hc1]
    refine cf rfl ?_
    obtain ⟨y2, hy2⟩ : ∃ y2, y2 = rsyncD y1.1 (nameS n) := ⟨_, rfl⟩
    have hb2 := hb1.sync (nameS n)
    rw [← hy2] at hgo hb2
    refine cut (α := Fl) (fun F => F.M = y2.1 ∧ RvOk rr0 w (Rv.on ⟨M, (some ⟨fb, fo, none⟩), fc, ps, rr, r1, vs ++ yvs, fun i => rp i ∨ yrr i, { S with pl := S.pl ++ qs, length := wholeP f.bs }⟩ F)) (fun F => ⟨[(4, ptr b4), (6, ptr b6), (7, .int .i64 y2.2), (8, .int .i64 n)], [rs (mP F.rr F.fa F.ps), se r1 (vs ++ yvs) TB, rs (bgR (fun i => rp i ∨ yrr i) (vs ++ yvs) (S.pl ++ qs)), cl b4 z TRS, cl b6 (rvS (Rv.on ⟨M, (some ⟨fb, fo, none⟩), fc, ps, rr, r1, vs ++ yvs, fun i => rp i ∨ yrr i, { S with pl := S.pl ++ qs, length := wholeP f.bs }⟩ F)) TRS], []⟩) ?_ ?_
    · refine drs [dead, dead, dead, dead, cl b6 (rvS (Rv.on ⟨M, (some ⟨fb, fo, none⟩), fc, ps, rr, r1, vs ++ yvs, fun i => rp i ∨ yrr i, { S with pl := S.pl ++ qs, length := wholeP f.bs }⟩ ⟨y1.1, fa1, fc1, ps1, rr1⟩)) TRS] [6, 7, 8, 9, 10] (.t 0 (.t 1 (.t 2 (.t 3 (.n 4 (.t 5 (.b 6 7 (.b 7 8 (.n 8 (.n 9 (.n 10 .nil))) (.b 7 9 (.n 9 (.n 10 .nil)) (.n 7 (.n 10 .nil)))) (.n 6 (.n 8 (.n 9 (.n 10 .nil))))))))))) tab_ok mixed_ok (by kernel_rfl) (.dead (.dead (.dead (.dead (.cons .nil))))) ?_
      refine ldP 4 (d := rdC y1.1 (.slice fa1 ps1.length fc1)) rfl rfl rfl ?_
      refine cz (fun w1 => rname_any n (by omega) w1) ?_
      refine cRs (M' := y2.1) (code := y2.2) 0 rfl (fun w1 hs => by rw [hy2]; exact rsync_any y1.1 _ rr1 (nameS n) (by have := hb1.fl; omega) (by have := hb1.st; omega) hb1.lf w1 (hok1.rfs (hs.res (k := 0) rfl)) (hs.res (k := 0) rfl : (mP rr1 _ _).p w1).2) (fun ps2 fa2 fc2 rr2 g1 g2 g3 => ?_)
      refine ⟨(.dead (.dead (.dead (.dead (.cons .nil))))), ?_⟩
      refine ⟨?_, ?_⟩
      · refine ⟨?_, ?_⟩
        · refine sP 4 (d := rdC y2.1 (.slice fa2 ps2.length fc2)) rfl (by show 0 + 6 ≤ 11; decide) rfl (e := rvS (Rv.on ⟨M, (some ⟨fb, fo, none⟩), fc, ps, rr, r1, vs ++ yvs, fun i => rp i ∨ yrr i, { S with pl := S.pl ++ qs, length := wholeP f.bs }⟩ ⟨y2.1, fa2, fc2, ps2, rr2⟩)) rfl ?_ (by kernel_rfl)
          exact ⟨⟨y2.1, fa2, fc2, ps2, rr2⟩, ⟨rfl, ⟨g1, g2, fun j hj => (g3 j hj).elim (hok1.rr j) .inr, hr1, hok.pls.app hypls⟩⟩, ⟨⟨rfl, rfl, rfl, rfl, trivial⟩, (.cons (.cons (.cons (.cons (.cons .nil))))), rfl⟩⟩
        · refine ⟨?_, ?_⟩
          · refine sP 4 (d := rdC y2.1 (.slice fa2 ps2.length fc2)) rfl (by show 0 + 6 ≤ 11; decide) rfl (e := rvS (Rv.on ⟨M, (some ⟨fb, fo, none⟩), fc, ps, rr, r1, vs ++ yvs, fun i => rp i ∨ yrr i, { S with pl := S.pl ++ qs, length := wholeP f.bs }⟩ ⟨y2.1, fa2, fc2, ps2, rr2⟩)) rfl ?_ (by kernel_rfl)
            exact ⟨⟨y2.1, fa2, fc2, ps2, rr2⟩, ⟨rfl, ⟨g1, g2, fun j hj => (g3 j hj).elim (hok1.rr j) .inr, hr1, hok.pls.app hypls⟩⟩, ⟨⟨rfl, rfl, rfl, rfl, trivial⟩, (.cons (.cons (.cons (.cons (.cons .nil))))), rfl⟩⟩
          · refine sP 4 (d := rdC y2.1 (.slice fa2 ps2.length fc2)) rfl (by show 0 + 6 ≤ 11; decide) rfl (e := rvS (Rv.on ⟨M, (some ⟨fb, fo, none⟩), fc, ps, rr, r1, vs ++ yvs, fun i => rp i ∨ yrr i, { S with pl := S.pl ++ qs, length := wholeP f.bs }⟩ ⟨y2.1, fa2, fc2, ps2, rr2⟩)) rfl ?_ (by kernel_rfl)
            exact ⟨⟨y2.1, fa2, fc2, ps2, rr2⟩, ⟨rfl, ⟨g1, g2, fun j hj => (g3 j hj).elim (hok1.rr j) .inr, hr1, hok.pls.app hypls⟩⟩, ⟨⟨rfl, rfl, rfl, rfl, trivial⟩, (.cons (.cons (.cons (.cons (.cons .nil))))), rfl⟩⟩
      · refine sP 4 (d := rdC y2.1 (.slice fa2 ps2.length fc2)) rfl (by show 0 + 6 ≤ 11; decide) rfl (e := rvS (Rv.on ⟨M, (some ⟨fb, fo, none⟩), fc, ps, rr, r1, vs ++ yvs, fun i => rp i ∨ yrr i, { S with pl := S.pl ++ qs, length := wholeP f.bs }⟩ ⟨y2.1, fa2, fc2, ps2, rr2⟩)) rfl ?_ (by kernel_rfl)
        exact ⟨⟨y2.1, fa2, fc2, ps2, rr2⟩, ⟨rfl, ⟨g1, g2, fun j hj => (g3 j hj).elim (hok1.rr j) .inr, hr1, hok.pls.app hypls⟩⟩, ⟨⟨rfl, rfl, rfl, rfl, trivial⟩, (.cons (.cons (.cons (.cons (.cons .nil))))), rfl⟩⟩
    rintro ⟨M3, fa3, fc3, ps3, rr3⟩ ⟨hF3, hok3⟩
    dsimp only at hF3 hok3 ⊢
    subst hF3
    by_cases hc2 : y2.2 = 0
    · rw [if_pos hc2] at hgo
      rw [hc2]
      refine cf rfl ?_
      refine .as ((n + 1 : Nat) : Int) (by omega) (by simp only [mn]; omega) (by simp only [mx]; omega) ?_
      refine ⟨(n + 1, Rv.on ⟨M, (some ⟨fb, fo, none⟩), fc, ps, rr, r1, vs ++ yvs, fun i => rp i ∨ yrr i, { S with pl := S.pl ++ qs, length := wholeP f.bs }⟩ ⟨y2.1, fa3, fc3, ps3, rr3⟩), ⟨by omega, by omega, hok3, by dsimp only [Rv.on]; rw [hSe], by rw [show last + 1 - (n + 1) = last - n by omega]; exact hgo, hb2.le (by omega), fun h => absurd h (by omega), by dsimp only [Rv.on]; rw [hqn2, List.length_append]; omega⟩, by dsimp only; omega, ⟨⟨rfl, rfl, rfl, rfl, trivial⟩, Sub.refl _, rfl⟩⟩
    · rw [if_neg hc2] at hgo
      refine ct (by rw [bne_iff_ne]; omega) ?_
      refine ldN 4 rfl rfl ?_
      refine sN 3 rfl (by rw [hz]; rfl) (rvS_one _) ?_ (by kernel_rfl)
      refine ldN 3 rfl rfl ?_
      have hny : Y.2 ≠ 0 := by rw [← hgo]; exact hc2
      exact ⟨fun w1 hs => rv_out hok3 hs (.cons (.cons (.cons (.drop (.drop .nil))))) (by have e := (hno hny).2; rw [← hgo] at e; exact e.symm) (fun h0 => absurd ((hno hny).1.symm.trans h0) hny) (by rw [(hno hny).1, ← hgo]; rfl)⟩
  · rw [if_neg hw, show thenD (M, 0) (fun D => rsyncD D (nameS n)) = rsyncD M (nameS n) from if_pos rfl] at hgo
    refine cf (decide_eq_false (by omega)) ?_
    obtain ⟨y2, hy2⟩ : ∃ y2, y2 = rsyncD M (nameS n) := ⟨_, rfl⟩
    have hb2 := hB0.sync (nameS n)
    rw [← hy2] at hgo hb2
    refine cut (α := Fl) (fun F => F.M = y2.1 ∧ RvOk rr0 w (Rv.on ⟨M, (some ⟨fb, fo, none⟩), fc, ps, rr, r1, vs ++ yvs, fun i => rp i ∨ yrr i, { S with pl := S.pl ++ qs, length := wholeP f.bs }⟩ F)) (fun F => ⟨[(4, ptr b4), (6, ptr b6), (7, .int .i64 y2.2), (8, .int .i64 n)], [rs (mP F.rr F.fa F.ps), se r1 (vs ++ yvs) TB, rs (bgR (fun i => rp i ∨ yrr i) (vs ++ yvs) (S.pl ++ qs)), cl b4 z TRS, cl b6 (rvS (Rv.on ⟨M, (some ⟨fb, fo, none⟩), fc, ps, rr, r1, vs ++ yvs, fun i => rp i ∨ yrr i, { S with pl := S.pl ++ qs, length := wholeP f.bs }⟩ F)) TRS], []⟩) ?_ ?_
    · refine drs [dead, dead, dead, dead, cl b6 (rvS ⟨M, (some ⟨fb, fo, none⟩), fc, ps, rr, r1, vs ++ yvs, fun i => rp i ∨ yrr i, { S with pl := S.pl ++ qs, length := wholeP f.bs }⟩) TRS] [6, 7, 8, 9, 10] (.t 0 (.t 1 (.t 2 (.t 3 (.n 4 (.t 5 (.b 6 7 (.b 7 8 (.n 8 (.n 9 (.n 10 .nil))) (.b 7 9 (.n 9 (.n 10 .nil)) (.n 7 (.n 10 .nil)))) (.n 6 (.n 8 (.n 9 (.n 10 .nil))))))))))) tab_ok mixed_ok (by kernel_rfl) (.dead (.dead (.dead (.dead (.cons (.drop .nil)))))) ?_
      refine ldP 4 (d := rdC M (.slice (some ⟨fb, fo, none⟩) ps.length fc)) rfl rfl rfl ?_
      refine cz (fun w1 => rname_any n (by omega) w1) ?_
      refine cRs (M' := y2.1) (code := y2.2) 0 rfl (fun w1 hs => by rw [hy2]; exact rsync_any M _ rr (nameS n) (by have := hB0.fl; omega) (by have := hB0.st; omega) hB0.lf w1 (hokX.rfs (hs.res (k := 0) rfl)) (hs.res (k := 0) rfl : (mP rr _ _).p w1).2) (fun ps2 fa2 fc2 rr2 g1 g2 g3 => ?_)
      refine ⟨(.dead (.dead (.dead (.dead (.cons (.drop .nil)))))), ?_⟩
      refine ⟨?_, ?_⟩
      · refine ⟨?_, ?_⟩
        · refine sP 4 (d := rdC y2.1 (.slice fa2 ps2.length fc2)) rfl (by show 0 + 6 ≤ 11; decide) rfl (e := rvS (Rv.on ⟨M, (some ⟨fb, fo, none⟩), fc, ps, rr, r1, vs ++ yvs, fun i => rp i ∨ yrr i, { S with pl := S.pl ++ qs, length := wholeP f.bs }⟩ ⟨y2.1, fa2, fc2, ps2, rr2⟩)) rfl ?_ (by kernel_rfl)
          exact ⟨⟨y2.1, fa2, fc2, ps2, rr2⟩, ⟨rfl, ⟨g1, g2, fun j hj => (g3 j hj).elim (hokX.rr j) .inr, hr1, hok.pls.app hypls⟩⟩, ⟨⟨rfl, rfl, rfl, rfl, trivial⟩, (.cons (.cons (.cons (.cons (.cons (.drop .nil)))))), rfl⟩⟩
        · refine ⟨?_, ?_⟩
          · refine sP 4 (d := rdC y2.1 (.slice fa2 ps2.length fc2)) rfl (by show 0 + 6 ≤ 11; decide) rfl (e := rvS (Rv.on ⟨M, (some ⟨fb, fo, none⟩), fc, ps, rr, r1, vs ++ yvs, fun i => rp i ∨ yrr i, { S with pl := S.pl ++ qs, length := wholeP f.bs }⟩ ⟨y2.1, fa2, fc2, ps2, rr2⟩)) rfl ?_ (by kernel_rfl)
            exact ⟨⟨y2.1, fa2, fc2, ps2, rr2⟩, ⟨rfl, ⟨g1, g2, fun j hj => (g3 j hj).elim (hokX.rr j) .inr, hr1, hok.pls.app hypls⟩⟩, ⟨⟨rfl, rfl, rfl, rfl, trivial⟩, (.cons (.cons (.cons (.cons (.cons (.drop .nil)))))), rfl⟩⟩
          · refine sP 4 (d := rdC y2.1 (.slice fa2 ps2.length fc2)) rfl (by show 0 + 6 ≤ 11; decide) rfl (e := rvS (Rv.on ⟨M, (some ⟨fb, fo, none⟩), fc, ps, rr, r1, vs ++ yvs, fun i => rp i ∨ yrr i, { S with pl := S.pl ++ qs, length := wholeP f.bs }⟩ ⟨y2.1, fa2, fc2, ps2, rr2⟩)) rfl ?_ (by kernel_rfl)
            exact ⟨⟨y2.1, fa2, fc2, ps2, rr2⟩, ⟨rfl, ⟨g1, g2, fun j hj => (g3 j hj).elim (hokX.rr j) .inr, hr1, hok.pls.app hypls⟩⟩, ⟨⟨rfl, rfl, rfl, rfl, trivial⟩, (.cons (.cons (.cons (.cons (.cons (.drop .nil)))))), rfl⟩⟩
      · refine sP 4 (d := rdC y2.1 (.slice fa2 ps2.length fc2)) rfl (by show 0 + 6 ≤ 11; decide) rfl (e := rvS (Rv.on ⟨M, (some ⟨fb, fo, none⟩), fc, ps, rr, r1, vs ++ yvs, fun i => rp i ∨ yrr i, { S with pl := S.pl ++ qs, length := wholeP f.bs }⟩ ⟨y2.1, fa2, fc2, ps2, rr2⟩)) rfl ?_ (by kernel_rfl)
        exact ⟨⟨y2.1, fa2, fc2, ps2, rr2⟩, ⟨rfl, ⟨g1, g2, fun j hj => (g3 j hj).elim (hokX.rr j) .inr, hr1, hok.pls.app hypls⟩⟩, ⟨⟨rfl, rfl, rfl, rfl, trivial⟩, (.cons (.cons (.cons (.cons (.cons (.drop .nil)))))), rfl⟩⟩
    rintro ⟨M3, fa3, fc3, ps3, rr3⟩ ⟨hF3, hok3⟩
    dsimp only at hF3 hok3 ⊢
    subst hF3
    by_cases hc2 : y2.2 = 0
    · rw [if_pos hc2] at hgo
      rw [hc2]
      refine cf rfl ?_
      refine .as ((n + 1 : Nat) : Int) (by omega) (by simp only [mn]; omega) (by simp only [mx]; omega) ?_
      refine ⟨(n + 1, Rv.on ⟨M, (some ⟨fb, fo, none⟩), fc, ps, rr, r1, vs ++ yvs, fun i => rp i ∨ yrr i, { S with pl := S.pl ++ qs, length := wholeP f.bs }⟩ ⟨y2.1, fa3, fc3, ps3, rr3⟩), ⟨by omega, by omega, hok3, by dsimp only [Rv.on]; rw [hSe], by rw [show last + 1 - (n + 1) = last - n by omega]; exact hgo, hb2.le (by omega), fun h => absurd h (by omega), by dsimp only [Rv.on]; rw [hqn2, List.length_append]; omega⟩, by dsimp only; omega, ⟨⟨rfl, rfl, rfl, rfl, trivial⟩, Sub.refl _, rfl⟩⟩
    · rw [if_neg hc2] at hgo
      refine ct (by rw [bne_iff_ne]; omega) ?_
      refine ldN 4 rfl rfl ?_
      refine sN 3 rfl (by rw [hz]; rfl) (rvS_one _) ?_ (by kernel_rfl)
      refine ldN 3 rfl rfl ?_
      have hny : Y.2 ≠ 0 := by rw [← hgo]; exact hc2
      exact ⟨fun w1 hs => rv_out hok3 hs (.cons (.cons (.cons (.drop (.drop .nil))))) (by have e := (hno hny).2; rw [← hgo] at e; exact e.symm) (fun h0 => absurd ((hno hny).1.symm.trans h0) hny) (by rw [(hno hny).1, ← hgo]; rfl)⟩
end Go.Proofs.YteamnhpplclmfaaGreatDoor
end
section
namespace Go.Proofs.YteamnhpplclmfaaGreatDoor
open Go.RowKit Go.Sx
set_option linter.unusedVariables false
theorem rman_le (M : Dk) : rmanP M ≤ 1048576 := by
  unfold rmanP
  split
  · decide
  · unfold toldP
    split
    · decide
    · split
      · omega
      · decide
def rz : Array Value := rsC ⟨0, 0, false, false, 0, []⟩ (.slice none 0 0) ⟨0, [], 0, 0, 0, 0⟩ (.slice none 0 0)
def s00 (size last : Nat) : Sr := ⟨size, [], 0, last, 0, 0⟩
def rv0 (F : Fl) (size last : Nat) : Rv := ⟨F.M, F.fa, F.fc, F.ps, F.rr, none, [], fun _ => False, s00 size last⟩
set_option maxRecDepth 100000 in
set_option maxHeartbeats 4000000 in
theorem ropen_man {rr0 : Nat → Prop} {o : OpS} {w : World} {size b4 b6 : Nat} {M : Dk} {q k : Nat} (hk : k ≤ 300000) (hq : q ≤ 16777216) (ho : o = ropenP M size) (h0 : (rdr1 M).2 = 0) {F : Fl} (hF : F.M = (rdr1 M).1) (hok : RvOk rr0 w (rv0 F size 0)) (hB : Rb q k F.M) :
    CodeP ⟨Tryz.prog, tab, 194, [], w, none⟩ (dropS 6 ((Tryz.f26.body).getD .skip)) (retK ⟨Tryz.prog, tab, 194, [], w, none⟩ Tryz.f26 (fun v w' => RefO rr0 w o.D o.S o.code (.returned v) w')) ⟨[(4, ptr b4), (6, ptr b6), (7, .int .i64 0)], rvE (rv0 F size 0) ++ [cl b4 rz TRS, cl b6 (rvS (rv0 F size 0)) TRS], []⟩ := by
  have hfl := hB.fl
  have hml := rman_le F.M
  have e1 : ∀ {α : Type} {a b : α}, (if (rdr1 M).2 ≠ 0 then a else b) = b := fun {α a b} => if_neg (by rw [h0]; decide)
  have hok1 : ∀ n, RvOk rr0 w (rv0 F size n) := fun n => ⟨hok.fs, hok.sh, hok.rr, hok.row, hok.pls⟩
  refine cutS tab_ok (fun _ : Unit => rmanP F.M ≠ 0) (fun _ => ⟨[(4, ptr b4), (6, ptr b6), (7, .int .i64 0)], rvE (rv0 F size (rmanP F.M)) ++ [cl b4 rz TRS, cl b6 (rvS (rv0 F size (rmanP F.M))) TRS], []⟩) 2 ?_ (fun _ hy => ?_)
  case refine_2 =>
    have e2 : ∀ {α : Type} {a b : α}, (if rmanP (rdr1 M).1 = 0 then a else b) = b := fun {α a b} => if_neg (by rw [← hF]; exact hy)
    refine ropen_loads (Y := rloadsD (rmanP F.M) ⟨F.M, [], 0⟩ (rmanP F.M) 1) rfl hml hk hq (fun hY => ?_) (hok1 _) rfl (by omega) hB rfl (fun hY => ?_)
    · rw [hF] at hY ⊢
      rw [ho]; unfold ropenP; rw [e1, e2, if_pos hY]; exact ⟨rfl, rfl⟩
    · rw [hF] at hY ⊢
      rw [ho]; unfold ropenP; rw [e1, e2, if_neg (by rw [hY]; decide)]; exact ⟨rfl, rfl, rfl⟩
  obtain ⟨M1, fa, fc, ps, rr⟩ := F
  dsimp only at hfl hml hF hB
  refine ldP 4 (d := rdC M1 (.slice fa ps.length fc)) rfl rfl rfl ?_
  refine cvs (fun w1 hs => rman_any M1 _ rr (by omega) (fun f hf => Nat.le_trans (hB.fz f hf) hq) w1 (hok.rfs (hs.res (k := 0) rfl)) (hs.res (k := 0) rfl : (mP rr fa ps).p w1).2) ?_
  refine s1e 4 (rvS (rv0 ⟨M1, fa, fc, ps, rr⟩ size (rmanP M1))) rfl (by show 9 < 11; decide) rfl ?_
  refine ld1 4 rfl (v := .int .i64 (rmanP M1 : Nat)) rfl ?_
  refine cq (fun h => ?_) (fun h => ?_)
  · have hz : rmanP M1 = 0 := by omega
    refine ldN 4 rfl rfl ?_
    refine sN 3 rfl rfl (rvS_one _) ?_ (by kernel_rfl)
    refine ldN 3 rfl rfl ?_
    have e3 : o = ⟨⟨size, [], 0, 0, 0, 0⟩, (rdr1 M).1, 6⟩ := by rw [ho]; unfold ropenP; rw [e1, if_pos (by rw [← hF]; exact hz)]
    exact ⟨fun w1 hs => rv_out (hok1 (rmanP M1)) hs (.cons (.cons (.cons (.drop (.drop .nil))))) (by rw [e3]; exact hF) (fun h9 => by rw [e3] at h9; exact absurd h9 (show ¬ (6 : Nat) = 0 by decide)) (by rw [e3]; rfl)⟩
  · exact ⟨(), by show rmanP M1 ≠ 0; omega, ⟨⟨rfl, rfl, rfl, trivial⟩, Sub.refl _, rfl⟩⟩
set_option maxRecDepth 100000 in
set_option maxHeartbeats 4000000 in
/-- Open, where the size and the disk allow it -/
theorem ropen_any (M : Dk) (fv : Value) (rr0 : Nat → Prop) (size : Nat) (hs1 : 64 ≤ size) (hs2 : size ≤ 1048576) (hg : M.gone = false) {q k : Nat} (hB : Rb q k M) (hk : k ≤ 200000) (hq : q ≤ 16777216) (w : World) (h : RFs rr0 w fv M.files) :
    Calls Tryz.prog 26 ([.agg (rdC M fv), .int .i64 size] : List Value).toArray w (RefO rr0 w (ropenP M size).D (ropenP M size).S (ropenP M size).code) := by
  obtain ⟨o, ho⟩ : ∃ o, o = ropenP M size := ⟨_, rfl⟩
  rw [← ho]
  obtain ⟨ps, fa, fc, e1, rfl, hsh, hm⟩ := rfs_mP h
  obtain ⟨rr, hrr⟩ : ∃ rr, rr = fun k => rr0 k ∧ k < w.heap.size := ⟨_, rfl⟩
  rw [← hrr] at hm
  have hfl := hB.fl
  have hst := hB.st
  have h1 : St [] w w [rs (mP rr fa ps)] := St.from w [] _ (fun e he => by obtain rfl : e = rs (mP rr fa ps) := (by simpa using he); exact ⟨(rsOk _ _).2 hm, fun k hk => by simp [mP] at hk⟩) (by simp)
  have h2 : St [] w w [rs (mP rr fa ps), dead, rs (bgR (fun _ => False) [] [])] := h1.deads.push (e := rs (bgR (fun _ => False) [] [])) (Below.refl _ _) ((rsOk _ _).2 ⟨fun i v p hv => by simp at hv, fun k hk => hk.elim⟩) (fun k hk => ((rsW _ _).1 hk).elim) (fun k hk => by simp [bgR] at hk)
  have hok : ∀ n, RvOk rr0 w (rv0 ⟨M, fa, fc, ps, rr⟩ size n) := fun n => ⟨e1, hsh, fun j hj => by rw [hrr] at hj; exact .inl hj.1, Rw.nil 1, ⟨rfl, fun i v p hv => by simp [rv0] at hv⟩⟩
  have hrfs : ∀ {u : World}, (mP rr fa ps).p u → RFs rr u (.slice fa ps.length fc) M.files := fun h => (hok 0).rfs h
  refine (enterP tab_ok Tryz.func26 rfl Tryz.ntmps26 rfl h2 (R := fun v w' => RefO rr0 w o.D o.S o.code (.returned v) w') ?_).mono (fun e w' ⟨u, he, h1⟩ => by rw [he]; exact h1)
  refine cutS tab_ok (fun y : Fl × Nat × Nat => (rdr1 M).2 = 0 ∧ y.1.M = (rdr1 M).1 ∧ RvOk rr0 w (rv0 y.1 size 0) ∧ Rb q (k + 1) y.1.M) (fun y => ⟨[(4, ptr y.2.1), (6, ptr y.2.2), (7, .int .i64 0)], rvE (rv0 y.1 size 0) ++ [cl y.2.1 rz TRS, cl y.2.2 (rvS (rv0 y.1 size 0)) TRS], []⟩) 6 ?_ (fun y ⟨y1, y2, y3, y4⟩ => ropen_man (by omega) hq ho y1 y2 y3 y4)
  intro b2 b4
  refine ldN 3 rfl rfl ?_
  refine bu (c := rvS (rv0 ⟨M, fa, fc, ps, rr⟩ size 0)) (by kernel_rfl) ?_
  intro b6
  refine sN 5 rfl rfl (rvS_one _) ?_ (by kernel_rfl)
  have d1 : decide ((size : Int) < 64) = false := decide_eq_false (by omega)
  have d2 : (decide ((size : Int) < 64) == false) = true := by rw [d1]; rfl
  have d3 : decide ((size : Int) > 1048576) = false := decide_eq_false (by omega)
  repeat (first | refine ct d2 ?_ | refine cf d1 ?_ | refine cf d3 ?_)
  refine ld1 3 rfl (v := .bool M.gone) rfl ?_
  refine cf hg ?_
  refine ldP 5 (d := rdC M (.slice fa ps.length fc)) rfl rfl rfl ?_
  refine cvs (fun w1 hs => rat_any M _ M.files rr newB (by omega) w1 (hrfs (hs.res (k := 0) rfl))) ?_
  rcases at_find newB M.files with ⟨hf1, hf2⟩ | ⟨i, f, hf0, hf1, hf2⟩
  · rw [hf2]
    have e2 : rdr1 M = (M, 0) := by unfold rdr1; rw [if_neg (by unfold hasD; rw [hf1]; decide)]
    refine cf rfl ?_
    exact ⟨(⟨M, fa, fc, ps, rr⟩, b4, b6), ⟨by rw [e2], by rw [e2], hok 0, hB.le (by omega)⟩, ⟨⟨rfl, rfl, rfl, trivial⟩, (.cons (.cons (.cons (.drop (.cons (.cons .nil)))))), rfl⟩⟩
  rw [hf2]
  have e2 : rdr1 M = rdropD M newB := by unfold rdr1; rw [if_pos (by unfold hasD; rw [hf1]; rfl)]
  refine ct (decide_eq_true (by omega)) ?_
  have hB1 := hB.drop newB
  obtain ⟨y, hy⟩ : ∃ y, y = rdropD M newB := ⟨_, rfl⟩
  rw [← hy] at e2 hB1
  refine ldP 5 (d := rdC M (.slice fa ps.length fc)) rfl rfl rfl ?_
  refine cRs (M' := y.1) (code := y.2) 0 rfl (fun w1 hs => by rw [hy]; exact rdrop_any M _ rr newB (by omega) (by omega) hB.lf w1 (hrfs (hs.res (k := 0) rfl)) (hs.res (k := 0) rfl : (mP rr fa ps).p w1).2) (fun ps2 fa2 fc2 rr2 g1 g2 g3 => ?_)
  have hok2 : RvOk rr0 w (rv0 ⟨y.1, fa2, fc2, ps2, rr2⟩ size 0) := ⟨g1, g2, fun j hj => (g3 j hj).elim ((hok 0).rr j) .inr, Rw.nil 1, (hok 0).pls⟩
  refine sP 5 (d := rdC y.1 (.slice fa2 ps2.length fc2)) rfl (by show 0 + 6 ≤ 11; decide) rfl (e := rvS (rv0 ⟨y.1, fa2, fc2, ps2, rr2⟩ size 0)) rfl ?_ (by kernel_rfl)
  by_cases hc : y.2 = 0
  · rw [hc]
    refine cf rfl ?_
    exact ⟨(⟨y.1, fa2, fc2, ps2, rr2⟩, b4, b6), ⟨by rw [e2]; exact hc, by rw [e2], hok2, hB1⟩, ⟨⟨rfl, rfl, rfl, trivial⟩, (.cons (.cons (.cons (.drop (.cons (.cons .nil)))))), rfl⟩⟩
  · refine ct (by rw [bne_iff_ne]; omega) ?_
    refine ldN 5 rfl rfl ?_
    refine sN 4 rfl rfl (rvS_one _) ?_ (by kernel_rfl)
    refine ldN 4 rfl rfl ?_
    have e3 : o = ⟨⟨size, [], 0, 0, 0, 0⟩, y.1, y.2⟩ := by rw [ho]; unfold ropenP; rw [if_pos (by rw [e2]; exact hc), e2]
    exact ⟨fun w1 hs => rv_out hok2 hs (.cons (.cons (.cons (.drop (.drop (.drop .nil)))))) (by rw [e3]; rfl) (fun h9 => by rw [e3] at h9; exact absurd h9 hc) (by rw [e3]; rfl)⟩
set_option maxRecDepth 100000 in
set_option maxHeartbeats 1000000 in
/-- Open, where the size is out of range -/
theorem ropen_range (M : Dk) (a : Option Addr) (n c : Nat) (size : Int) (hs : size < 64 ∨ 1048576 < size) (w : World) :
    Calls Tryz.prog 26 ([.agg (rdC M (.slice a n c)), .int .i64 size] : List Value).toArray w fun e w' => e = .returned (.tuple #[.agg #[.int .i64 M.quota, .int .i64 M.steps, .int .i64 M.left, .bool M.armed, .bool M.gone, .slice a n c, .int .i64 size, .slice none 0 0, .int .i64 0, .int .i64 0, .int .i64 0], .int .i64 2]) ∧ Below w.heap.size w w' := by
  refine enterV tab_ok Tryz.func26 rfl Tryz.ntmps26 rfl (St.start w) ?_
  intro b2 b4
  refine ldN 0 rfl rfl ?_
  refine bu (c := #[.int .i64 M.quota, .int .i64 M.steps, .int .i64 M.left, .bool M.armed, .bool M.gone, .slice a n c, .int .i64 size, .slice none 0 0, .int .i64 0, .int .i64 0, .int .i64 0]) (by kernel_rfl) ?_
  intro b6
  refine sN 2 rfl rfl rfl ?_ (by kernel_rfl)
  by_cases h1 : size < 64
  · have d1 : decide (size < 64) = true := decide_eq_true h1
    have d2 : (decide (size < 64) == false) = false := by rw [d1]; rfl
    repeat (first | refine cf d2 ?_ | refine ct d1 ?_ | refine ct rfl ?_)
    refine ldN 2 rfl rfl ?_
    refine sN 1 rfl rfl rfl ?_ (by kernel_rfl)
    refine ldN 1 rfl rfl ?_
    exact rt rfl
  · have d1 : decide (size < 64) = false := decide_eq_false h1
    have d2 : (decide (size < 64) == false) = true := by rw [d1]; rfl
    have d3 : decide (size > 1048576) = true := decide_eq_true (by omega)
    repeat (first | refine ct d2 ?_ | refine cf d1 ?_ | refine ct d3 ?_)
    refine ldN 2 rfl rfl ?_
    refine sN 1 rfl rfl rfl ?_ (by kernel_rfl)
    refine ldN 1 rfl rfl ?_
    exact rt rfl
end Go.Proofs.YteamnhpplclmfaaGreatDoor
end
section
namespace Go.Proofs.YteamnhpplclmfaaGreatDoor
open Go.RowKit Go.Sx
set_option linter.unusedVariables false
theorem infoT : (Tryz.prog.info? 9).map (fun i => (i.zero, i.size, i.bytes)) = some (some (.string ⟨#[]⟩), 1, 16) := by kernel_rfl
theorem undTs : Tryz.prog.underlying 106 = some (.slice 9) := by kernel_rfl
theorem bsT0 (w : World) : (Instr.buildSlice 106 0 #[]).run Tryz.prog w = .ok (.slice (some ⟨w.heap.size, 0, none⟩) 0 0) (w.alloc (.cells #[] 9)) := by
  obtain ⟨i, hi, hz, hs, hb⟩ := infoOf infoT
  simp [Instr.buildSlice, run_underlying undTs, sizeOf, typeInfo, hi, newRow, Instr.fill]
  exact congrArg (fun c => w.alloc (.cells c 9)) (Array.ext' (by simp))
theorem bsT1 (l : List UInt8) (w : World) : (Instr.buildSlice 106 1 #[(0, VS l)]).run Tryz.prog w = .ok (.slice (some ⟨w.heap.size, 0, none⟩) 1 1) (w.alloc (.cells #[VS l] 9)) := by
  obtain ⟨i, hi, hz, hs, hb⟩ := infoOf infoT
  exact run_buildSlice w _ _ 1 _ #[VS l] i (.string ⟨#[]⟩) undTs hi hz (by rw [hs]; decide) (by rw [hs]; decide) (by rw [hs]; kernel_rfl)
theorem txt_app (a b : List (List UInt8)) : txtCells (a ++ b) = txtCells a ++ txtCells b := by simp [txtCells]
theorem mP_row {rr : Nat → Prop} {fb fo : Nat} {ps : List PF} {u : World} (h : (mP rr (some ⟨fb, fo, none⟩) ps).p u) {i : Nat} (hi : i < ps.length) : ∀ (j : Nat) (v : Value), (#[VS ps[i].2.name, ps[i].1, .int .i64 ps[i].2.sure] : Array Value).toList[j]? = some v → u.cell? ⟨fb, fo + i * 3 + j, none⟩ = some v := by
  obtain ⟨b, o, e, _, _, hc⟩ := h.1.2 (fun h0 => by rw [h0] at hi; exact absurd hi (by simp))
  injection e with e
  injection e with e1 e2 _
  subst e1 e2
  obtain ⟨c1, c2, c3⟩ := rfC_get ps i hi
  intro j v hv
  rw [Nat.add_assoc]
  rcases j with _ | _ | _ | j
  · exact hc _ _ (c1.trans hv)
  · exact hc _ _ (c2.trans hv)
  · exact hc _ _ (c3.trans hv)
  · simp at hv
theorem crash_whole {f : Fe} (h1 : f.sure ≤ f.bs.length) (h2 : f.bs.length ≤ 16777216) : (crashF 1073741824 f).bs = f.bs := by
  have : f.sure + min (1073741824 : Int).toNat (f.bs.length - f.sure) = f.bs.length := by
    have : (1073741824 : Int).toNat = 1073741824 := rfl
    omega
  unfold crashF
  simp only [this, List.take_length]
set_option maxRecDepth 100000 in
set_option maxHeartbeats 4000000 in
theorem same_disk (S : DkS) (M : Dk) (fa : Option Addr) (fc : Nat) (ps : List PF) (rr : Nat → Prop) (he : Eqv S.D M) {q k : Nat} (hB : Bd q k S.D) (hq : q ≤ 16777216) (hk : k ≤ 900000) (hps : ps.map (·.2) = M.files) (hsh : PsOk fa ps) (w : World) (h : DkP S w) (hm : (mP rr fa ps).p w) :
    Calls Tryz.prog 36 ([ptr S.bd, .agg (rdC M (.slice fa ps.length fc))] : List Value).toArray w fun e w' => e = .returned (.bool true) ∧ Below w.heap.size w w' := by
  have hpl : ps.length = M.files.length := by rw [← hps]; simp
  have hRb : Rb q k M := ⟨S.D, he, hB⟩
  have hfl := hRb.fl
  refine enterV tab_ok Tryz.func36 rfl Tryz.ntmps36 rfl (St.reads (L := [rs (dkR S).rd, rs (mP rr fa ps)]) (fun e he => by
    simp only [List.mem_cons, List.not_mem_nil, or_false] at he
    rcases he with rfl | rfl
    · exact ⟨(rsOk _ _).2 h, fun k hk => ((rsW _ _).1 hk).elim⟩
    · exact ⟨(rsOk _ _).2 hm, fun k hk => ((rsW _ _).1 hk).elim⟩)) ?_
  intro b3
  refine .mk _ _ bsT0 (fun b5 => ?_)
  refine cM (α := Nat × Nat) (Φ := fun _ => True) (v := fun x => ptr x.1) (r' := fun x => dkR (S.at x)) (fun w1 hs => (copyd_any S w1 (hs.res (k := 0) rfl)).mono fun e w' ⟨x, h0, h1, h2, h3, h4⟩ => ⟨x, h0, h1, h2, h3, h4, fun k hk => .inr ⟨rs (dkR S).rd, by simp, (rsA _ _).2 (.inr (.inr hk)), fun hw => ((rsW _ _).1 hw).elim⟩⟩) (fun x _ => ?_)
  refine cT (α := DkS) (Φ := fun S2 => S2.D = crashD S.D 1073741824 ∧ S2.bd = x.1) (v := fun _ => .tuple #[]) (r' := dkR) 4 rfl (fun w1 hs => (crash_any (S.at x) 1073741824 (by decide) w1 (hs.res (k := 4) rfl)).mono fun e w' ⟨S', ⟨h1, h2, h3⟩, h4, h5⟩ => ⟨S', ⟨h1, h2⟩, h4, h5⟩) (fun S2 hS2 => ?_)
  obtain ⟨hS2, hb2⟩ := hS2
  refine ld1 2 rfl (v := .slice fa ps.length fc) rfl ?_
  refine lp tab_ok (fun y : Nat × Sx.Own => y.1 ≤ ps.length ∧ Rw 1 y.1 y.2 (txtCells ((ps.take y.1).map (·.2.name)))) (fun y => ⟨[(0, ptr S.bd), (3, ptr b3), (5, sv y.2 y.1), (6, ptr x.1), (17, .slice fa ps.length fc), (18, .int .i64 ps.length), (19, .int .i64 y.1)], [rs (dkR S).rd, rs (mP rr fa ps), cl b3 (rdC M (.slice fa ps.length fc)) TR, se y.2 (txtCells ((ps.take y.1).map (·.2.name))) 9, rs (dkR S2)], []⟩) (fun y => ps.length - y.1)
    (0, some (b5, 0, [])) ⟨Nat.zero_le _, rfl, Nat.le_refl _, by unfold maxLen; omega, rfl⟩ ⟨⟨rfl, rfl, rfl, rfl, rfl, rfl, rfl, trivial⟩, Sub.refl _, rfl⟩ ?_
  rintro ⟨i, r⟩ ⟨hi, hR⟩
  dsimp only at hi hR ⊢
  refine cd (fun hc => ?_) (fun hc => ?_)
  · have hil : i < ps.length := by omega
    obtain ⟨fb, fo, rfl⟩ := hsh.ad (by intro h0; rw [h0] at hil; exact absurd hil (by simp))
    obtain ⟨qa, qc, hq0, hqc, hqs⟩ := hsh.sh ps[i] (List.getElem_mem hil)
    have hrow : ∀ w1, (mP rr (some ⟨fb, fo, none⟩) ps).p w1 → _ := fun w1 h => mP_row h hil
    have hrd : ∀ w1, (mP rr (some ⟨fb, fo, none⟩) ps).p w1 → Rd w1 _ _ := fun w1 h => mP_rd h hil hq0
    have hfm : ps[i].2 ∈ M.files := by rw [← hps]; exact List.mem_map_of_mem (List.getElem_mem hil)
    have e9 : txtCells ((ps.take (i + 1)).map (·.2.name)) = txtCells ((ps.take i).map (·.2.name)) ++ [VS ps[i].2.name] := by
      rw [List.take_succ_eq_append_getElem hil, List.map_append, txt_app]; simp [txtCells]
    generalize ps[i].2 = f at hq0 hqc hrow hrd hfm e9
    have hfind : findF f.name S.D.files = some f := by rw [← he.f.find]; exact find_some he.f.s.nd hfm
    have hfz := hRb.fz f hfm
    have hfs := hRb.sz f hfm
    have hread : readD S2.D f.name = (f.bs, 0) := by
      rw [hS2]
      have := readN (crashD S.D 1073741824) f.name rfl (f := crashF 1073741824 f) (by show findF f.name (S.D.files.map (crashF 1073741824)) = _; rw [find_crashF, hfind]; rfl)
      rw [this, crash_whole hfs (by omega)]
    rw [hq0] at hrow
    refine ⟨by omega, by omega, ?_⟩
    refine .mk #[VS f.name, .slice qa f.bs.length qc, .int .i64 f.sure] rfl (fun w1 hs j v hv => by simp only [nad_eq, nmu_eq, Int.toNat_natCast]; exact hrow w1 (hs.res (k := 1) rfl) j v hv) ?_
    intro b8
    refine sN 5 rfl rfl rfl ?_ (by kernel_rfl)
    refine ld1 5 rfl (v := VS f.name) rfl ?_
    refine .mk _ _ (bsT1 _) (fun b9 => ?_)
    refine ap1 3 6 tab_ok rfl infoT rfl rfl hR rfl rfl (by omega) (by unfold maxLen; omega) (fun r' hR' => ?_)
    rw [← e9] at hR' ⊢
    refine ld1 5 rfl (v := VS f.name) rfl ?_
    rw [← hb2]
    refine coV (n := f.bs.length) (z := 1) (xs := Lib.byteCells f.bs) (e := 5) (fun v => .tuple #[v, .nilIface]) (fun w1 hs => by have := read_any S2 f.name w1 (hs.res (k := 4) rfl); rw [hread] at this; exact this) (fun r1 hR1 => ?_)
    refine dr [rs (dkR S).rd, rs (mP rr (some ⟨fb, fo, none⟩) ps), cl b3 (rdC M (.slice (some ⟨fb, fo, none⟩) ps.length fc)) TR, dead, dead, cl b8 #[VS f.name, .slice qa f.bs.length qc, .int .i64 f.sure] TFi, dead, se r1 (Lib.byteCells f.bs) 5] 99 (.t 0 (.t 1 (.t 2 (.t 3 (.t 4 (.t 5 (.t 6 (.t 7 (.t 8 (.t 9 (.t 10 (.t 11 (.t 12 (.t 13 (.t 14 (.t 15 (.t 16 (.t 17 .nil)))))))))))))))))) tab_ok mixed_ok (by kernel_rfl) (.cons (.cons (.cons (.dead (.dead (.cons (.dead (.cons .nil)))))))) ?_
    repeat (first | refine ct rfl ?_ | refine cf rfl ?_)
    refine ld1 5 rfl (v := .slice qa f.bs.length qc) rfl ?_
    repeat (first | refine ct rfl ?_ | refine cf rfl ?_)
    refine czs (fun w1 hs => same_yes _ _ f.bs w1 (Rd.own hs 7 rfl hR1) (hrd w1 (hs.res (k := 1) rfl))) ?_
    repeat (first | refine ct rfl ?_ | refine cf rfl ?_)
    refine ld1 5 rfl (v := VS f.name) rfl ?_
    repeat (first | refine ct rfl ?_ | refine cf rfl ?_)
    refine czs (v := .int .i64 f.sure) (fun w1 hs => by have := sure_any S f.name w1 (hs.res (k := 0) rfl); rwa [hfind] at this) ?_
    repeat (first | refine ct rfl ?_ | refine cf rfl ?_)
    refine ld1 5 rfl (v := .int .i64 f.sure) rfl ?_
    have d1 : (((f.sure : Nat) : Int) != ((f.sure : Nat) : Int)) = false := bne_self_eq_false _
    repeat (first | refine ct rfl ?_ | refine cf rfl ?_ | refine cf d1 ?_)
    refine .as ((i + 1 : Nat) : Int) (by omega) (by simp only [mn]; omega) (by simp only [mx]; omega) ?_
    exact ⟨(i + 1, r'), ⟨hil, hR'⟩, by dsimp only; omega, ⟨⟨rfl, rfl, rfl, rfl, rfl, rfl, rfl, trivial⟩, (.cons (.cons (.cons (.cons (.cons (.drop (.drop (.drop .nil)))))))), rfl⟩⟩
  · obtain rfl : i = ps.length := by omega
    rw [List.take_of_length_le (Nat.le_refl _)] at hR
    simp only [List.take_of_length_le (Nat.le_refl _)]
    have hnm : ps.map (·.2.name) = M.files.map (·.name) := by rw [← hps, List.map_map]; rfl
    rw [hnm] at hR ⊢
    have hfd := hB.f.l
    refine dr [rs (dkR S).rd, dead, cl b3 (rdC M (.slice fa ps.length fc)) TR] 99 (.t 0 (.t 2 (.n 1 (.n 3 (.t 4 (.t 5 (.t 6 (.t 7 (.t 8 (.t 9 (.t 10 (.t 11 (.t 12 (.t 13 (.t 14 (.t 15 (.t 16 (.t 17 (.t 18 .nil))))))))))))))))))) tab_ok mixed_ok (by kernel_rfl) (.cons (.dead (.cons (.drop (.drop .nil))))) ?_
    refine co (fun w1 hs => names_any S w1 (hs.res (k := 0) rfl) (by omega)) (fun r2 hR2 => ?_)
    refine ⟨(.cons (.dead (.cons (.drop (.drop (.drop .nil)))))), ?_⟩
    refine cvs (v := .bool true) (fun w1 hs => by have := texts_any _ _ _ _ (by simp [sortT, List.length_mergeSort]; omega) (by simp; unfold maxLen; omega) w1 (Rd.own hs 5 rfl hR2) (Rd.own hs 3 rfl hR); rwa [he.f.names, decide_eq_true rfl] at this) ?_
    refine ⟨(.cons (.dead (.cons (.drop (.drop (.drop .nil)))))), ?_⟩
    repeat (first | refine ct rfl ?_ | refine cf rfl ?_)
    refine czs (v := .int .i64 M.steps) (fun w1 hs => by have := steps_any S w1 (hs.res (k := 0) rfl); rwa [he.st] at this) ?_
    repeat (first | refine ct rfl ?_ | refine cf rfl ?_)
    refine ld1 2 rfl (v := .int .i64 M.steps) rfl ?_
    have d1 : (((M.steps : Nat) : Int) == ((M.steps : Nat) : Int)) = true := beq_self_eq_true _
    have d2 : ((((M.steps : Nat) : Int) == ((M.steps : Nat) : Int)) == true) = true := by rw [d1]; rfl
    repeat (first | refine ct d2 ?_ | refine ct d1 ?_ | refine ct rfl ?_ | refine cf rfl ?_)
    refine czs (v := .bool M.gone) (fun w1 hs => by have := down_any S w1 (hs.res (k := 0) rfl); rwa [he.gn] at this) ?_
    repeat (first | refine ct d2 ?_ | refine ct d1 ?_ | refine ct rfl ?_ | refine cf rfl ?_)
    refine ld1 2 rfl (v := .bool M.gone) rfl ?_
    repeat (first | refine ct d2 ?_ | refine ct d1 ?_ | refine ct rfl ?_ | refine cf rfl ?_)
    exact rt (congrArg Value.bool (by simp))
end Go.Proofs.YteamnhpplclmfaaGreatDoor
end
section
namespace Go.Proofs.YteamnhpplclmfaaGreatDoor
open Go.RowKit Go.Sx
set_option linter.unusedVariables false
end Go.Proofs.YteamnhpplclmfaaGreatDoor
end
section
namespace Go.Proofs.YteamnhpplclmfaaGreatDoor
open Go.RowKit Go.Sx
set_option linter.unusedVariables false
section
variable {C : Cx} {L : List Ent}
end
/-- a file that came in -/
structure Fi where
  name : Bs
  a : Option Addr
  c : Nat
  bs : Bs
  sure : Int
instance : Inhabited Fi := ⟨⟨[], none, 0, [], 0⟩⟩
def Fi.cs (q : Fi) : Array Value := #[VS q.name, .slice q.a q.bs.length q.c, .int .i64 q.sure]
end Go.Proofs.YteamnhpplclmfaaGreatDoor
end
section
namespace Go.Proofs.YteamnhpplclmfaaGreatDoor
open Go.RowKit Go.Sx
set_option linter.unusedVariables false
theorem puts_len (size n : Nat) (ps : List Bs) (h : ∀ p ∈ ps, p.length ≤ n) : ∀ x : Pt, (putsD size x ps).1.last ≤ x.last + ps.length ∧ (putsD size x ps).1.length ≤ x.length + (8 + n) * ps.length := by
  induction ps with
  | nil => intro x; exact ⟨Nat.le_refl _, Nat.le_refl _⟩
  | cons p ps ih =>
    intro x
    have h1 := go_last size x p
    have h2 := h p (by simp)
    have h3 := ih (fun q hq => h q (by simp [hq])) (putD size x p).1
    rw [putsD, List.length_cons, Nat.mul_succ]
    split
    · exact ⟨by have := h1.2.2.1; omega, by have := h1.2.2.2; omega⟩
    · exact ⟨by have := h1.2.2.1; omega, by have := h1.2.2.2; omega⟩
/-- a store that holds the first payloads -/
structure An (ps : List Bs) (i : Nat) (S : Sr) (D : Dk) : Prop where
  st : S.stuck = 0
  pl : S.pl = ps.take i
  al : ∃ Ss P q, Al ⟨D, S.last, S.length⟩ Ss P q ∧ Ss.flatten ++ P = S.pl ∧ Ss.length ≤ i
  calm : Calm D
  qt : D.quota = 1048576
  us : usedD D.files ≤ 400 * i
  la : S.last ≤ i + 1
  le : S.length ≤ 308 * i
theorem Gd.used0 {F : List Fe} (h : Gd [] [] 0 F) (hn : findF newB F = none) : usedD F = 0 := by
  have hz : ∀ f ∈ F, f.bs.length = 0 := fun f hf => by
    have hfs := find_some h.nd hf
    rcases h.oth f hf with e | e | ⟨i, h1, h2, e⟩
    · have hm : findF manB F = none := h.man
      rw [← e, hfs] at hm
      cases hm
    · rw [← e, hfs] at hn; cases hn
    · obtain rfl : i = 1 := by simp at h2; omega
      rw [e] at hfs
      rcases h.las with ⟨_, e2⟩ | ⟨g, e1, e2, _⟩
      · rw [show nameS (([] : List (List Bs)).length + 1) = nameS 1 from rfl, hfs] at e2; cases e2
      · rw [show nameS (([] : List (List Bs)).length + 1) = nameS 1 from rfl, hfs] at e1
        obtain rfl := Option.some.inj e1
        rw [e2]; rfl
  clear hn h
  induction F with
  | nil => rfl
  | cons f F ih => rw [used_cons, hz f (by simp), ih fun g hg => hz g (by simp [hg])]
theorem An.zero (ps : List Bs) (size : Nat) : An ps 0 (openP ⟨0, 0, false, false, 1048576, []⟩ size).S (openP ⟨0, 0, false, false, 1048576, []⟩ size).D := by
  obtain ⟨z1, z2, z3, z4, z5, z6⟩ := open_zero 1048576 size
  have hf := z3.used0 z5
  rw [z2]
  refine ⟨rfl, rfl, ⟨[], [], 0, ⟨z3, z5, rfl, rfl⟩, rfl, Nat.le_refl _⟩, z4, z6, by rw [hf]; exact Nat.zero_le _, Nat.le_refl _, Nat.zero_le _⟩
theorem An.sync {ps : List Bs} {i : Nat} {S : Sr} {D : Dk} (h : An ps i S D) : (syncS ⟨S, D⟩).2 = 0 ∧ ∃ Ss P, Gd Ss P P.length (syncS ⟨S, D⟩).1.D.files ∧ Ss.flatten ++ P = S.pl := by
  obtain ⟨Ss, P, q, ha, ht, hs⟩ := h.al
  have hla : S.last = Ss.length + 1 := ha.la
  unfold syncS
  rw [if_neg (by simpa using h.st), if_neg (by rw [h.calm.1]; decide)]
  dsimp only
  rw [hla]
  cases hh : hasD D (nameS (Ss.length + 1)) with
  | false =>
    rw [if_neg (by decide)]
    refine ⟨rfl, Ss, P, ?_, ht⟩
    rcases ha.g.las with ⟨e, _⟩ | ⟨f, e, _⟩
    · subst e
      have hq := ha.g.ql
      obtain rfl : q = 0 := by simpa using hq
      exact ha.g
    · unfold hasD at hh; dsimp only at e; rw [e] at hh; cases hh
  | true =>
    rw [if_pos rfl]
    obtain ⟨f, hf⟩ := has_read hh
    have e := sync_eq hf
    obtain ⟨a1, a2, a3, a4⟩ := act_calm h.calm (setF ⟨nameS (Ss.length + 1), f.bs, f.bs.length⟩ D.files)
    rw [← e] at a1 a2 a3 a4
    rw [if_pos a1]
    refine ⟨rfl, Ss, P, ?_, ht⟩
    dsimp only
    rw [a2]
    exact ha.g.synced hf
end Go.Proofs.YteamnhpplclmfaaGreatDoor
end
section
namespace Go.Proofs.YteamnhpplclmfaaGreatDoor
open Go.RowKit Go.Sx
set_option linter.unusedVariables false
theorem open_fresh (s l : Nat) (a : Bool) (q size : Nat) : openP ⟨s, l, a, false, q, []⟩ size = ⟨⟨size, [], 0, 1, 0, 0⟩, ⟨s, l, a, false, q, []⟩, 0⟩ := by
  have h1 : dr1 ⟨s, l, a, false, q, []⟩ = (⟨s, l, a, false, q, []⟩, 0) := rfl
  have h2 : mfL (dr1 ⟨s, l, a, false, q, []⟩) = 1 := rfl
  have h3 : ldOf ⟨s, l, a, false, q, []⟩ = (⟨⟨s, l, a, false, q, []⟩, [], 0⟩, 0) := rfl
  have hs : sortT ((⟨s, l, a, false, q, []⟩ : Dk).files.map (·.name)) = [] := by first | rfl | exact List.mergeSort_nil | simp [sortT]
  unfold openP
  rw [h2, h3]
  dsimp only
  first | rw [hs] | (dsimp only at hs; rw [hs])
  rfl
/-- how the files of a disk stand behind what was appended -/
def Gs (all : List Bs) (sure : Nat) (m : Nat) (F : List Fe) : Prop := ∃ Ss P q r, Gd Ss P q F ∧ all = Ss.flatten ++ P ++ r ∧ sure ≤ cnt Ss q ∧ Ss.length ≤ m
/-- while a script goes -/
structure Hn (all : List Bs) (sure : Nat) (m : Nat) (S : Sr) (D : Dk) : Prop where
  st : ∃ Ss P q r, Gd Ss P q D.files ∧ all = Ss.flatten ++ P ++ r ∧ sure ≤ cnt Ss q ∧ Ss.length ≤ m ∧ (S.stuck = 0 → Al ⟨D, S.last, S.length⟩ Ss P q ∧ r = [] ∧ S.pl = all)
  la : S.last ≤ m + 1
  le : S.length ≤ 308 * m
  pl : S.pl.length ≤ m
theorem Hn.gs {all : List Bs} {sure m : Nat} {S : Sr} {D : Dk} (h : Hn all sure m S D) : Gs all sure m D.files := by
  obtain ⟨Ss, P, q, r, a, b, c, d, _⟩ := h.st
  exact ⟨Ss, P, q, r, a, b, c, d⟩
theorem Hn.zero (size : Nat) (D : Dk) (hD : D.files = []) : Hn [] 0 0 ⟨size, [], 0, 1, 0, 0⟩ D := by
  refine ⟨⟨[], [], 0, [], by rw [hD]; exact Gd.nil, rfl, Nat.zero_le _, Nat.le_refl _, fun _ => ⟨⟨by rw [hD]; exact Gd.nil, by rw [hD]; rfl, rfl, rfl⟩, rfl, rfl⟩⟩, Nat.le_refl _, Nat.le_refl _, Nat.le_refl _⟩
theorem Hn.stop {all : List Bs} {sure m m' : Nat} {S S' : Sr} {D D' : Dk} (h : Hn all sure m S D) (ps : List Bs) (hm : m ≤ m') (hs : S'.stuck ≠ 0) (h1 : S'.last = S.last) (h2 : S'.length = S.length) (h3 : S'.pl = S.pl) (hD : D'.files = D.files) : Hn (all ++ ps) sure m' S' D' := by
  obtain ⟨Ss, P, q, r, a, b, c, d, e⟩ := h.st
  refine ⟨⟨Ss, P, q, r ++ ps, by rw [hD]; exact a, by rw [b]; simp, c, by omega, fun h0 => absurd h0 hs⟩, by have := h.la; omega, by have := h.le; rw [h2]; omega, by have := h.pl; rw [h3]; omega⟩
theorem Hn.append {all : List Bs} {sure m : Nat} {S : Sr} {D : Dk} (h : Hn all sure m S D) (ps : List Bs) (hp : ∀ p ∈ ps, p.length ≤ 300) (hm : m + ps.length ≤ 10000) :
    Hn (all ++ ps) sure (m + ps.length) (appendS ⟨S, D⟩ ps).1.S (appendS ⟨S, D⟩ ps).1.D := by
  have hp6 : ∀ p ∈ ps, p.length ≤ 65536 := fun p hm => by have := hp p hm; omega
  have hbig : (ps.any fun p => decide (65536 < p.length)) = false := by
    rw [List.any_eq_false]; intro p hm; have := hp p hm; simp; omega
  unfold appendS
  by_cases hst : S.stuck ≠ 0
  · rw [if_pos hst]
    exact h.stop ps (Nat.le_add_right _ _) hst rfl rfl rfl rfl
  rw [if_neg hst, if_neg (by rw [hbig]; decide)]
  split
  · exact h.stop ps (Nat.le_add_right _ _) (show (3 : Nat) ≠ 0 by decide) rfl rfl rfl rfl
  split
  · exact h.stop ps (Nat.le_add_right _ _) (show (4 : Nat) ≠ 0 by decide) rfl rfl rfl rfl
  obtain ⟨Ss, P, q, r, a, b, c, d, e⟩ := h.st
  obtain ⟨al, er, epl⟩ := e (by simpa using hst)
  subst er
  rw [List.append_nil] at b
  obtain ⟨S2, P2, q2, k, g1, c1, l1, t1, al1⟩ := puts_plain (size := S.size) ps hp6 al (by omega)
  have hl := puts_len S.size 300 ps hp ⟨D, S.last, S.length⟩
  have hla := h.la
  have hle := h.le
  have hpl := h.pl
  dsimp only at hl g1
  split
  · rename_i a1
    obtain ⟨b1, b2⟩ := al1 a1
    refine ⟨⟨S2, P2, q2, [], g1, by rw [b2, b, List.append_nil], by omega, by omega, fun _ => ⟨b1, rfl, by show S.pl ++ ps = _; rw [epl]⟩⟩, ?_, ?_, ?_⟩
    · show (putsD S.size ⟨D, S.last, S.length⟩ ps).1.last ≤ _; omega
    · show (putsD S.size ⟨D, S.last, S.length⟩ ps).1.length ≤ _; omega
    · show (S.pl ++ ps).length ≤ _; rw [List.length_append]; omega
  · rename_i a1
    refine ⟨⟨S2, P2, q2, ps.drop k, g1, by rw [t1, b, List.append_assoc _ (ps.take k), List.take_append_drop], by omega, by omega, fun h0 => absurd h0 a1⟩, ?_, ?_, ?_⟩
    · show S.last ≤ _; omega
    · show S.length ≤ _; omega
    · show S.pl.length ≤ _; omega
theorem Hn.sync {all : List Bs} {sure m : Nat} {S : Sr} {D : Dk} (h : Hn all sure m S D) :
    Hn all sure m (syncS ⟨S, D⟩).1.S (syncS ⟨S, D⟩).1.D ∧ ((syncS ⟨S, D⟩).2 = 0 → Hn all all.length m (syncS ⟨S, D⟩).1.S (syncS ⟨S, D⟩).1.D) := by
  have stop : ∀ {S' : Sr} {D' : Dk}, S'.stuck ≠ 0 → S'.last = S.last → S'.length = S.length → S'.pl = S.pl → D'.files = D.files → Hn all sure m S' D' := fun a b c d e => by
    have := h.stop [] (Nat.le_refl m) a b c d e
    rwa [List.append_nil] at this
  unfold syncS
  by_cases hst : S.stuck ≠ 0
  · rw [if_pos hst]
    exact ⟨h, fun h0 => absurd h0 hst⟩
  rw [if_neg hst]
  split
  · exact ⟨stop (show (4 : Nat) ≠ 0 by decide) rfl rfl rfl rfl, fun h0 => absurd h0 (show ¬ (4 : Nat) = 0 by decide)⟩
  obtain ⟨Ss, P, q, r, a, b, c, d, e⟩ := h.st
  obtain ⟨al, er, epl⟩ := e (by simpa using hst)
  subst er
  rw [List.append_nil] at b
  have hla : S.last = Ss.length + 1 := al.la
  have hl1 := h.la
  have hl2 := h.le
  have hl3 := h.pl
  have hall : all.length = cnt Ss P.length := by rw [b]; unfold cnt; simp
  cases hh : hasD D (nameS S.last) with
  | false =>
    rw [if_neg (by decide)]
    have hP : P = [] ∧ q = 0 := by
      rcases a.las with ⟨e1, _⟩ | ⟨f, e1, _⟩
      · subst e1; exact ⟨rfl, by simpa using a.ql⟩
      · unfold hasD at hh; rw [hla, e1] at hh; cases hh
    obtain ⟨rfl, rfl⟩ := hP
    have key : ∀ s, s ≤ cnt Ss 0 → Hn all s m { S with sure := S.pl.length } D := fun s hs => ⟨⟨Ss, [], 0, [], a, by rw [b]; simp, hs, d, fun _ => ⟨al, rfl, epl⟩⟩, hl1, hl2, hl3⟩
    exact ⟨key _ c, fun _ => key _ (by rw [hall]; exact Nat.le_refl _)⟩
  | true =>
    rw [if_pos rfl]
    dsimp only
    have hnm : nameS S.last = nameS (Ss.length + 1) := by rw [hla]
    rw [hnm] at hh ⊢
    obtain ⟨f, hf⟩ := has_read hh
    have e1 := sync_eq hf
    rcases act_cases D (setF ⟨nameS (Ss.length + 1), f.bs, f.bs.length⟩ D.files) with ⟨c1, d1⟩ | ⟨c1, d1⟩
    · rw [← e1] at c1 d1
      rw [if_pos c1]
      have g1 : Gd Ss P P.length (syncD D (nameS (Ss.length + 1))).1.files := by rw [d1]; exact a.synced hf
      have nn : findF newB (syncD D (nameS (Ss.length + 1))).1.files = none := by rw [d1, find_set, if_neg (show ¬ newB = nameS (Ss.length + 1) from fun e => name_new _ e.symm)]; exact al.nn
      have key : ∀ s, s ≤ cnt Ss P.length → Hn all s m { S with sure := S.pl.length } (syncD D (nameS (Ss.length + 1))).1 := fun s hs => ⟨⟨Ss, P, P.length, [], g1, by rw [b, List.append_nil], hs, d, fun _ => ⟨⟨g1, nn, hla, al.le⟩, rfl, epl⟩⟩, hl1, hl2, hl3⟩
      have hql := a.ql
      exact ⟨key _ (Nat.le_trans c (by unfold cnt; omega)), fun _ => key _ (by rw [hall]; exact Nat.le_refl _)⟩
    · rw [← e1] at c1 d1
      rw [if_neg (by rw [c1]; decide)]
      refine ⟨stop (show (syncD D (nameS (Ss.length + 1))).2 ≠ 0 by rw [c1]; decide) rfl rfl rfl d1, fun h0 => ?_⟩
      rw [c1] at h0
      cases h0
/-- the power goes, and the disk is opened again -/
theorem Gs.reopen {all : List Bs} {sure m : Nat} {D : Dk} (h : Gs all sure m D.files) (keep : Int) (size : Nat) :
    ∃ n, sure ≤ n ∧ n ≤ all.length ∧ (openP (crashD D keep) size).code = 0 ∧ (openP (crashD D keep) size).S.pl = all.take n ∧ (openP (crashD D keep) size).S.sure = n ∧ (openP (crashD D keep) size).S.last ≤ m + 1 ∧ Gs (all.take n) n m (openP (crashD D keep) size).D.files := by
  obtain ⟨Ss, P, q, r, a, b, c, d⟩ := h
  obtain ⟨j, j1, j2, o1, o2, o3, o4, o5, o6⟩ := open_plain a keep size
  have hn : (Ss.flatten ++ P.take j).length = cnt Ss j := by unfold cnt; rw [List.length_append, List.length_take]; omega
  have ht : all.take (cnt Ss j) = Ss.flatten ++ P.take j := by
    have e : all = (Ss.flatten ++ P.take j) ++ (P.drop j ++ r) := by rw [b]; rw [List.append_assoc, List.append_assoc, ← List.append_assoc (P.take j), List.take_append_drop]
    rw [e, List.take_left' hn]
  refine ⟨cnt Ss j, Nat.le_trans c (by unfold cnt; omega), ?_, o1, by rw [o2, ht], by rw [o2, ← hn], by rw [o2]; show Ss.length + 1 ≤ _; omega, ⟨Ss, P.take j, j, [], o3, by rw [ht, List.append_nil], Nat.le_refl _, d⟩⟩
  rw [b]
  unfold cnt
  simp
  omega
end Go.Proofs.YteamnhpplclmfaaGreatDoor
end
