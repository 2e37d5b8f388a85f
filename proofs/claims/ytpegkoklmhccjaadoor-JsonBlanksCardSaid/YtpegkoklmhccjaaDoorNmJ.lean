/- What is needed at every turn: bytes, texts, errors; cachetnum's functions. -/
import Derived.Test.YtpegkoklmhccjaaDoorBdS
import Derived.Test.YtpegkoklmhccjaaDoorJsA
import Derived.Test.YtpegkoklmhccjaaDoorSxL
import Derived.Test.YtpegkoklmhccjaaDoorSxT
import Derived.Laws.BytesArg
import Derived.Laws.IdiomStrings
import Derived.Laws.MakeOwn
import Derived.Great.BuildSlice
namespace Go.Proofs.YtpegkoklmhccjaaDoor
open Go.RowKit Go.Sx
set_option linter.unusedVariables false

theorem undST : Tryd.prog.underlying 9 = some .string := by kernel_rfl
theorem undU8 : Tryd.prog.underlying 5 = some (.int .u8) := by kernel_rfl
abbrev VS (l : List UInt8) : Value := .string ⟨l.toArray⟩
/-- an error by its number -/
def ErrN (n : Nat) : Value := .iface 46 (.int .i64 n)
/-- an error or none -/
def errV (n : Nat) : Value := if n = 0 then .nilIface else ErrN n
theorem errV0 : errV 0 = .nilIface := rfl
theorem errVs (n : Nat) (h : n ≠ 0) : errV n = ErrN n := if_neg h
theorem size_mk (l : List UInt8) : (ByteArray.mk l.toArray).size = l.length := by simp [ByteArray.size]
theorem bs2 (x y : Int) (w : World) : (Instr.buildSlice 38 2 #[(0, .int .u8 x), (1, .int .u8 y)]).run Tryd.prog w = .ok (.slice (some ⟨w.heap.size, 0, none⟩) 2 2) (w.alloc (.cells #[.int .u8 x, .int .u8 y] 5)) := by
  obtain ⟨i, hi, hz, hs, hb⟩ := infoOf info5
  exact run_buildSlice w _ _ 2 _ #[.int .u8 x, .int .u8 y] i (.int .u8 0) und22 hi hz (by rw [hs]; decide) (by rw [hs]; decide) (by rw [hs]; kernel_rfl)
theorem bsl0 (w : World) : (Instr.buildSlice 38 0 #[]).run Tryd.prog w = .ok (.slice (some ⟨w.heap.size, 0, none⟩) 0 0) (w.alloc (.cells #[] 5)) := by
  obtain ⟨i, hi, hz, hs, hb⟩ := infoOf info5
  simp [Instr.buildSlice, run_underlying und22, sizeOf, typeInfo, hi, newRow, Instr.fill]
  exact congrArg (fun c => w.alloc (.cells c 5)) (Array.ext' (by simp))
theorem madeU8 (w : World) {P : Program} {t e : TypeId} (ht : P.underlying t = some (.slice e)) (hi : (P.info? e).map (fun i => (i.zero, i.size, i.bytes)) = some (some (.int .u8 0), 1, 1)) (l c : Nat) (hlc : l ≤ c) (hc : c ≤ 100000000) :
    (Instr.makeSlice t (.int .i64 (l : Int)) (.int .i64 (c : Int))).run P w = .ok (.slice (some ⟨w.heap.size, 0, none⟩) l c) (w.alloc (.cells (List.replicate c (.int .u8 0)).toArray e)) := by
  obtain ⟨i, hi, hz, hs, hb⟩ := infoOf hi
  have h := run_make (P := P) w t e i _ ht hi hz .i64 .i64 (l : Int) (c : Int) (by omega) (by omega) (by rw [hb]; omega) (by omega)
  rw [hs] at h
  simp only [Int.toNat_natCast, Nat.mul_one] at h
  rw [h]
  congr 2
  simp only [madeCells]
  congr 1
  apply Array.ext
  · simp
  · intro i h1 h2
    simp [Value.cells, Nat.mod_one]
theorem one8 (l : List UInt8) : ∀ u ∈ Lib.byteCells l, u.oneCell' = true := by
  intro u hu
  obtain ⟨b, _, rfl⟩ := List.mem_map.1 hu
  rfl
theorem rd_at {w : World} {v : Value} {xs : List Value} (h : Rd w v xs) (hx : xs ≠ []) : ∃ b o c, v = .slice (some ⟨b, o, none⟩) xs.length c ∧ b < w.heap.size ∧ ∀ j u, xs[j]? = some u → w.cell? ⟨b, o + j, none⟩ = some u := by
  obtain ⟨a, c, h0, h1⟩ := h
  obtain ⟨b, o, rfl, h2, h3⟩ := h1 hx
  exact ⟨b, o, c, h0, h2, h3⟩
theorem rd_nil (w : World) (a : Option Addr) (c : Nat) : Rd w (.slice a 0 c) (Lib.byteCells []) := ⟨a, c, rfl, fun h => absurd rfl h⟩
theorem rd_str {w : World} {v : Value} {l : List UInt8} (h : Rd w v (Lib.byteCells l)) : (convert 38 9 v).run Tryd.prog w = .ok (VS l) w := by
  obtain ⟨a, c, rfl, h1⟩ := h
  rw [Lib.byteCells_length]
  by_cases h0 : l = []
  · subst h0
    cases a with
    | none => exact run_convert_bytes_nil w _ _ und22 undU8 0 c _ undST
    | some a => exact run_convert_bytes_back w _ _ _ a c [] und22 undU8 undST (fun j hj => by cases hj)
  · obtain ⟨b, o, rfl, _, hc⟩ := h1 (by intro h; apply h0; have := congrArg List.length h; rw [Lib.byteCells_length] at this; exact List.eq_nil_of_length_eq_zero this)
    exact run_convert_bytes_back w _ _ _ _ c l und22 undU8 undST (fun j hj => by rw [addr_add]; exact hc j _ (by simp [Lib.byteCells, hj]))
/-- a constant text against another -/
theorem const_beq (a b : ByteArray) : (a.toList == b.toList) = decide (a.data.toList = b.data.toList) := by
  have := list_beq a.data.toList b.data.toList
  simpa using this
theorem assertN (n : Nat) (w : World) : (Instr.typeAssert (ErrN n) 41 46 true).run Tryd.prog w = .ok (.tuple #[.int .i64 n, .bool true]) w := by
  kernel_rfl
set_option maxRecDepth 100000 in
theorem num_any (n : Nat) (w : World) : Calls Tryd.prog 15 ([errV n] : List Value).toArray w fun e w' => e = .returned (.int .i64 n) ∧ Below w.heap.size w w' := by
  refine enterV tab_ok Tryd.func15 rfl Tryd.ntmps15 rfl (St.start w) ?_
  by_cases h0 : n = 0
  · subst h0
    refine ct rfl ?_
    exact rt rfl
  rw [errVs n h0]
  refine cf rfl ?_
  refine semV (fun w _ => assertN n w) ?_
  refine ct rfl ?_
  refine ct rfl ?_
  refine ct rfl ?_
  refine ct (bne_iff_ne.2 (by omega)) ?_
  exact rt rfl
set_option maxRecDepth 100000 in
theorem is_any (n m : Nat) (w : World) : Calls Tryd.prog 16 ([errV n, .int .i64 m] : List Value).toArray w fun e w' => e = .returned (.bool (decide (n = m))) ∧ Below w.heap.size w w' := by
  refine enterV tab_ok Tryd.func16 rfl Tryd.ntmps16 rfl (St.start w) ?_
  refine cv (num_any n) ?_
  refine rt (congrArg Value.bool ?_)
  rw [Bool.eq_iff_iff, beq_iff_eq, decide_eq_true_eq]; omega
/-- the marks -/
def marks : List Value := [.int .u8 165, .int .u8 90]
set_option maxRecDepth 100000 in
/-- a copy of bytes, with marks behind it -/
theorem copy_any (v : Value) (x : List UInt8) (hx : x.length ≤ 1000000) (w : World) (hv : Rd w v (Lib.byteCells x)) : Calls Tryd.prog 17 ([v] : List Value).toArray w fun e w' =>
    ∃ b c j, e = .returned (sv (some (b, c, marks ++ j)) x.length) ∧ Rw 1 x.length (some (b, c, marks ++ j)) (Lib.byteCells x) ∧ w.heap.size ≤ b ∧ w'.heap[b]? = some (.cells (Lib.byteCells x ++ (marks ++ j)).toArray 5 (0, 0)) ∧ Below w.heap.size w w' := by
  have hv0 := hv
  obtain ⟨va, vc, rfl, _⟩ := hv
  rw [Lib.byteCells_length] at hv0 ⊢
  refine (enter tab_ok Tryd.func17 rfl Tryd.ntmps17 rfl (St.start w) (R := fun v w' => ∃ b c j, v = sv (some (b, c, marks ++ j)) x.length ∧ Rw 1 x.length (some (b, c, marks ++ j)) (Lib.byteCells x) ∧ w.heap.size ≤ b ∧ w'.heap[b]? = some (.cells (Lib.byteCells x ++ (marks ++ j)).toArray 5 (0, 0)) ∧ Below w.heap.size w w') ?_).mono (fun e w' ⟨v, he, b, c, j, h1, h2⟩ => ⟨b, c, j, by rw [he, h1], h2⟩)
  refine .as ((x.length + 2 : Nat) : Int) (by simp) (by simp only [mn]; omega) (by simp only [mx]; omega) ?_
  refine .mk 0 (x.length + 2) _ _ (fun w => madeU8 w und22 info5 0 (x.length + 2) (Nat.zero_le _) (by omega)) (fun b1 => ?_)
  refine ap (r := some (b1, x.length + 2, List.replicate (x.length + 2) (.int .u8 0))) (xs := []) (n := 0) (m := (Lib.byteCells x).length) (news := Lib.byteCells x) 0 tab_ok rfl info5 rfl rfl ⟨rfl, Nat.zero_le _, by unfold maxLen; omega, by simp⟩ (fun w' hs => (hv0.below hs.below).src und22 (one8 x)) (by rw [Lib.byteCells_length]; omega) (by rw [Lib.byteCells_length]; unfold maxLen; omega) (fun r1 hR1 => ?_)
  refine .mk _ _ (bs2 165 90) (fun b2 => ?_)
  refine ap 0 (news := marks) (m := 2) tab_ok rfl info5 rfl rfl hR1 (srcE (C := ⟨Tryd.prog, tab, 14, [], w, none⟩) (e' := 5) (tx := 38) (z := 1) rfl tab_ok (src 1 rfl rfl) rfl (by simp [marks, Value.oneCell'])) (by rw [Lib.byteCells_length]; omega) (by rw [Lib.byteCells_length]; unfold maxLen; omega) (fun r2 hR2 => ?_)
  rw [Lib.byteCells_length] at hR2
  rw [Lib.byteCells_length]
  cases r2 with
  | none => have := hR2.2; simp only at this; omega
  | some p =>
    obtain ⟨b, c, j⟩ := p
    obtain ⟨h1, h2, h3, h4⟩ := hR2
    refine slTo (by rintro a h; obtain rfl := Option.some.inj h; rfl) (by omega) h2 ?_
    refine ⟨fun w1 hs => ⟨b, c, j, rfl, ⟨by rw [Lib.byteCells_length]; omega, by omega, h3, by simpa using h4⟩, ?_, ?_, hs.below⟩⟩
    · rcases hs.own _ (List.mem_of_getElem? (i := 0) rfl) rfl rfl with h | h
      · exact h
      · simp at h
    · have := hs.nth (k := 0) rfl
      simpa using this
set_option maxRecDepth 100000 in
/-- a copy says what the bytes say, and its marks stand -/
theorem kept_yes {va vb : Value} {b c : Nat} {j : List Value} {x : List UInt8} (hx : x.length ≤ 1000000) (hva : va = sv (some (b, c, marks ++ j)) x.length) (hR : Rw 1 x.length (some (b, c, marks ++ j)) (Lib.byteCells x)) (w : World) (ha : w.heap[b]? = some (.cells (Lib.byteCells x ++ (marks ++ j)).toArray 5 (0, 0))) (hb : Rd w vb (Lib.byteCells x)) :
    Calls Tryd.prog 19 ([va, vb] : List Value).toArray w fun e w' => e = .returned (.bool true) ∧ Below w.heap.size w w' := by
  subst hva
  have hb0 := hb
  obtain ⟨a2, c2, rfl, _⟩ := hb
  rw [Lib.byteCells_length] at hb0 ⊢
  obtain ⟨h1, h2, h3, h4⟩ := hR
  have hc : x.length + 2 ≤ c := by
    have : (Lib.byteCells x ++ (marks ++ j)).length = c * 1 := h4
    simp [marks, Lib.byteCells_length] at this; omega
  have e1 : ((ByteArray.mk x.toArray).toList == (ByteArray.mk x.toArray).toList) = true := by simp
  refine enterV tab_ok Tryd.func19 rfl Tryd.ntmps19 rfl (St.reads1 ha) ?_
  refine semV (fun w' hs => rd_str (l := x) (Rd.ent hs 0 (n := x.length) rfl (by rw [Lib.byteCells_length]) (by simp [Lib.byteCells_length]))) ?_
  refine semV (fun w' hs => rd_str (hb0.below hs.below)) ?_
  have e2 : ((!((ByteArray.mk x.toArray).toList == (ByteArray.mk x.toArray).toList)) == false) = true := by rw [e1]; rfl
  refine ct e2 ?_
  refine ct e2 ?_
  refine ct e2 ?_
  refine ct e2 ?_
  refine ct e2 ?_
  refine .as ((x.length + 2 : Nat) : Int) (by simp) (by simp only [mn]; omega) (by simp only [mx]; omega) ?_
  refine ct e2 ?_
  refine cf (by rw [e1]; rfl) ?_
  refine cf (decide_eq_false (by omega)) ?_
  refine .as ((x.length + 2 : Nat) : Int) (by simp) (by simp only [mn]; omega) (by simp only [mx]; omega) ?_
  refine ⟨.mk 0 (x.length + 2) c rfl rfl rfl (Nat.zero_le _) hc (Nat.le_refl _) (by simp) ?_⟩
  refine .on (by omega) ?_
  refine ⟨by omega, by omega, ?_⟩
  refine ld1 0 rfl (v := .int .u8 165) (by rw [nad_eq, nmu_eq]; simp [nad_eq, nmu_eq, marks, Lib.byteCells_length]) ?_
  refine ct rfl ?_
  refine ct rfl ?_
  refine ct rfl ?_
  refine ct rfl ?_
  refine .as ((x.length + 1 : Nat) : Int) (by simp) (by simp only [mn]; omega) (by simp only [mx]; omega) ?_
  refine ct rfl ?_
  refine ⟨by omega, by omega, ?_⟩
  refine ct rfl ?_
  refine ld1 0 rfl (v := .int .u8 90) (by rw [nad_eq, nmu_eq]; simp [nad_eq, nmu_eq, marks, Lib.byteCells_length]) ?_
  refine ct rfl ?_
  refine ct rfl ?_
  exact rt rfl


def overL (x : List UInt8) (i : Nat) : List Value := Lib.byteCells ((x.take i).map (· ^^^ 255)) ++ Lib.byteCells (x.drop i)
theorem overL_len (x : List UInt8) (i : Nat) : (overL x i).length = x.length := by simp [overL, Lib.byteCells_length]; omega
theorem over_get (x : List UInt8) (i : Nat) (h : i < x.length) (j : List Value) : (overL x i ++ j).toArray[i]? = some (.int .u8 (x[i].toNat : Nat)) := by
  have h1 : (Lib.byteCells ((x.take i).map (· ^^^ 255))).length = i := by simp [Lib.byteCells_length]; omega
  unfold overL
  simp only [List.getElem?_toArray, List.append_assoc]
  rw [List.getElem?_append_right (by omega), h1, Nat.sub_self, List.drop_eq_getElem_cons h]
  rfl
theorem over_set (x : List UInt8) (i : Nat) (h : i < x.length) (j : List Value) : (overL x i ++ j).toArray.setIfInBounds i (.int .u8 ((x[i] ^^^ 255).toNat : Nat)) = (overL x (i + 1) ++ j).toArray := by
  have h1 : (Lib.byteCells ((x.take i).map (· ^^^ 255))).length = i := by simp [Lib.byteCells_length]; omega
  apply Array.ext'
  unfold overL
  simp only [Array.toList_setIfInBounds, List.append_assoc]
  rw [List.set_append_right _ _ (by omega), h1, Nat.sub_self, List.drop_eq_getElem_cons h, List.take_succ_eq_append_getElem h, List.map_append, Lib.byteCells_append, List.append_assoc]
  rfl
theorem xor255 (c : UInt8) : bitI .xor .u8 (c.toNat : Int) 255 = ((c ^^^ 255).toNat : Nat) := by
  have : ∀ n, n < 256 → bitI .xor .u8 ((UInt8.ofNat n).toNat : Int) 255 = ((UInt8.ofNat n ^^^ 255).toNat : Nat) := by decide +kernel
  have h := this c.toNat (UInt8.toNat_lt c)
  simpa using h
section
variable {N : Nat} {M : Bks} {B : World} {F : Option Nat} {L : List Ent} {next : Value → List Ent → Prop}
set_option maxRecDepth 100000 in
/-- bytes of one's own are written over -/
theorem over_in (k : Nat) {r : Sx.Own} {x : List UInt8} (hk : L[k]? = some (se r (Lib.byteCells x) 5)) (hR : Rw 1 x.length r (Lib.byteCells x)) (hx : x.length ≤ 1000000) (go : next (.tuple #[]) (L.set k dead)) :
    CallP ⟨Tryd.prog, tab, N, M, B, F⟩ 20 [sv r x.length] L next := by
  have hkl : k < L.length := (List.getElem?_eq_some_iff.1 hk).1
  cases r with
  | none =>
    have h0 : x.length = 0 := hR.2
    rw [h0]
    refine inl (C := ⟨Tryd.prog, tab, N, M, B, F⟩) tab_ok Tryd.func20 rfl Tryd.ntmps20 rfl ?_
    refine lp tab_ok (fun x : Unit => True) (fun _ => ⟨[(0, .slice none 0 0), (3, .slice none 0 0), (4, .int .i64 0), (5, .int .i64 0)], L, []⟩) (fun _ => 0) () trivial ⟨⟨rfl, rfl, rfl, rfl, trivial⟩, Sub.refl L, rfl⟩ ?_
    intro _ _
    refine cf rfl ?_
    rw [show L.set k dead = L from set_same hk] at go
    exact bk go
  | some p =>
    obtain ⟨b, c, j⟩ := p
    refine inl (C := ⟨Tryd.prog, tab, N, M, B, F⟩) tab_ok Tryd.func20 rfl Tryd.ntmps20 rfl ?_
    refine lp tab_ok (fun i : Nat => i ≤ x.length) (fun i => ⟨[(0, .slice (some ⟨b, 0, none⟩) x.length c), (4, .int .i64 x.length), (5, .int .i64 i)], L.set k (cl b (overL x i ++ j).toArray 5), []⟩) (fun i => x.length - i) 0 (Nat.zero_le _)
      ⟨⟨rfl, rfl, rfl, trivial⟩, ?_, rfl⟩ ?_
    · have e1 : overL x 0 = Lib.byteCells x := by simp [overL, Lib.byteCells]
      rw [e1]
      have := set_same hk
      rw [show cl b (Lib.byteCells x ++ j).toArray 5 = se (some (b, c, j)) (Lib.byteCells x) 5 from rfl, this]
      exact Sub.refl L
    intro i hi
    have hat : (L.set k (cl b (overL x i ++ j).toArray 5))[k]? = some (cl b (overL x i ++ j).toArray 5) := by simp [hkl]
    refine cd (fun h => ?_) (fun h => ?_)
    · have hlt : i < x.length := by omega
      refine ⟨by omega, by omega, ?_⟩
      have eo : nad 0 (nmu ((i : Nat) : Int).toNat 1) = i := by rw [nad_eq, nmu_eq]; simp
      refine ld1 k hat (v := .int .u8 (x[i].toNat : Nat)) (by rw [eo]; exact over_get x i hlt j) ?_
      refine ⟨by omega, by omega, ?_⟩
      refine s1 k hat (by rw [eo]; simp [overL_len]; omega) ?_
      refine .as ((i + 1 : Nat) : Int) (by simp) (by simp only [mn]; omega) (by simp only [mx]; omega) ?_
      refine ⟨i + 1, by omega, by omega, ⟨⟨rfl, rfl, rfl, trivial⟩, ?_, rfl⟩⟩
      rw [eo, xor255, List.set_set, over_set x i hlt j]
      exact Sub.refl _
    · refine bkS ?_ go
      have : L.set k dead = (L.set k (cl b (overL x i ++ j).toArray 5)).set k dead := by rw [List.set_set]
      rw [this]
      exact sub_dead k
end
end Go.Proofs.YtpegkoklmhccjaaDoor
