/- cachetnum's Over and Texts. -/
import Derived.Test.YtdgkaboaapfnmaaNmA
namespace Go.Proofs.Ytdgkaboaapfnmaa
open Go.RowKit Go.Sx
set_option linter.unusedVariables false

def overL (x : List UInt8) (i : Nat) : List Value := Lib.byteCells ((x.take i).map (· ^^^ 255)) ++ Lib.byteCells (x.drop i)
theorem overL_len (x : List UInt8) (i : Nat) : (overL x i).length = x.length := by simp [overL, Lib.byteCells_length]; omega
theorem over_get (x : List UInt8) (i : Nat) (h : i < x.length) (j : List Value) : (overL x i ++ j).toArray[i]? = some (.int .u8 (x[i].toNat : Nat)) := by
  have h1 : (Lib.byteCells ((x.take i).map (· ^^^ 255))).length = i := by simp [Lib.byteCells_length]; omega
  unfold overL
  simp only [List.getElem?_toArray, List.append_assoc]
  rw [List.getElem?_append_right (by omega), h1, Nat.sub_self, List.drop_eq_getElem_cons h]
  rfl
theorem over_set (x : List UInt8) (i : Nat) (h : i < x.length) (j : List Value) : (overL x i ++ j).toArray.setIfInBounds i (.int .u8 ((x[i] ^^^ 255).toNat : Nat)) = (overL x (i + 1) ++ j).toArray := by
  have h1 : (Lib.byteCells ((x.take i).map (· ^^^ 255))).length = i := by simp [Lib.byteCells_length]; omega
  apply Array.ext'
  unfold overL
  simp only [Array.toList_setIfInBounds, List.append_assoc]
  rw [List.set_append_right _ _ (by omega), h1, Nat.sub_self, List.drop_eq_getElem_cons h, List.take_succ_eq_append_getElem h, List.map_append, Lib.byteCells_append, List.append_assoc]
  rfl
theorem xor255 (c : UInt8) : bitI .xor .u8 (c.toNat : Int) 255 = ((c ^^^ 255).toNat : Nat) := by
  have : ∀ n, n < 256 → bitI .xor .u8 ((UInt8.ofNat n).toNat : Int) 255 = ((UInt8.ofNat n ^^^ 255).toNat : Nat) := by decide +kernel
  have h := this c.toNat (UInt8.toNat_lt c)
  simpa using h
section
variable {N : Nat} {M : Bks} {B : World} {F : Option Nat} {L : List Ent} {next : Value → List Ent → Prop}
set_option maxRecDepth 100000 in
/-- bytes of one's own are written over -/
theorem over_in (k : Nat) {r : Sx.Own} {x : List UInt8} (hk : L[k]? = some (se r (Lib.byteCells x) 5)) (hR : Rw 1 x.length r (Lib.byteCells x)) (hx : x.length ≤ 1000000) (go : next (.tuple #[]) (L.set k dead)) :
    CallP ⟨Try.prog, tab, N, M, B, F⟩ 41 [sv r x.length] L next := by
  have hkl : k < L.length := (List.getElem?_eq_some_iff.1 hk).1
  cases r with
  | none =>
    have h0 : x.length = 0 := hR.2
    rw [h0]
    refine inl (C := ⟨Try.prog, tab, N, M, B, F⟩) tab_ok Try.func41 rfl Try.ntmps41 rfl ?_
    refine lp tab_ok (fun x : Unit => True) (fun _ => ⟨[(0, .slice none 0 0), (3, .slice none 0 0), (4, .int .i64 0), (5, .int .i64 0)], L, []⟩) (fun _ => 0) () trivial ⟨⟨rfl, rfl, rfl, rfl, trivial⟩, Sub.refl L, rfl⟩ ?_
    intro _ _
    refine cf rfl ?_
    rw [show L.set k dead = L from set_same hk] at go
    exact bk go
  | some p =>
    obtain ⟨b, c, j⟩ := p
    refine inl (C := ⟨Try.prog, tab, N, M, B, F⟩) tab_ok Try.func41 rfl Try.ntmps41 rfl ?_
    refine lp tab_ok (fun i : Nat => i ≤ x.length) (fun i => ⟨[(0, .slice (some ⟨b, 0, none⟩) x.length c), (4, .int .i64 x.length), (5, .int .i64 i)], L.set k (cl b (overL x i ++ j).toArray 5), []⟩) (fun i => x.length - i) 0 (Nat.zero_le _)
      ⟨⟨rfl, rfl, rfl, trivial⟩, ?_, rfl⟩ ?_
    · have e1 : overL x 0 = Lib.byteCells x := by simp [overL, Lib.byteCells]
      rw [e1]
      have := set_same hk
      rw [show cl b (Lib.byteCells x ++ j).toArray 5 = se (some (b, c, j)) (Lib.byteCells x) 5 from rfl, this]
      exact Sub.refl L
    intro i hi
    have hat : (L.set k (cl b (overL x i ++ j).toArray 5))[k]? = some (cl b (overL x i ++ j).toArray 5) := by simp [hkl]
    refine cd (fun h => ?_) (fun h => ?_)
    · have hlt : i < x.length := by omega
      refine ⟨by omega, by omega, ?_⟩
      have eo : nad 0 (nmu ((i : Nat) : Int).toNat 1) = i := by rw [nad_eq, nmu_eq]; simp
      refine ld1 k hat (v := .int .u8 (x[i].toNat : Nat)) (by rw [eo]; exact over_get x i hlt j) ?_
      refine ⟨by omega, by omega, ?_⟩
      refine s1 k hat (by rw [eo]; simp [overL_len]; omega) ?_
      refine .as ((i + 1 : Nat) : Int) (by simp) (by simp only [mn]; omega) (by simp only [mx]; omega) ?_
      refine ⟨i + 1, by omega, by omega, ⟨⟨rfl, rfl, rfl, trivial⟩, ?_, rfl⟩⟩
      rw [eo, xor255, List.set_set, over_set x i hlt j]
      exact Sub.refl _
    · refine bkS ?_ go
      have : L.set k dead = (L.set k (cl b (overL x i ++ j).toArray 5)).set k dead := by rw [List.set_set]
      rw [this]
      exact sub_dead k
end
/-- texts as cells -/
def txtCells (a : List (List UInt8)) : List Value := a.map VS
theorem txt_one (a : List (List UInt8)) : ∀ u ∈ txtCells a, u.oneCell' = true := by
  intro u hu
  obtain ⟨b, _, rfl⟩ := List.mem_map.1 hu
  rfl
set_option maxRecDepth 100000 in
theorem texts_any (va vb : Value) (a b : List (List UInt8)) (ha0 : a.length ≤ 1000000) (hb0 : b.length ≤ maxLen) (w : World) (ha : Rd w va (txtCells a)) (hb : Rd w vb (txtCells b)) : Calls Try.prog 22 ([va, vb] : List Value).toArray w fun e w' => e = .returned (.bool (decide (a = b))) ∧ Below w.heap.size w w' := by
  have ha1 := ha
  have hb1 := hb
  obtain ⟨a1, c1, rfl, _⟩ := ha
  obtain ⟨a2, c2, rfl, _⟩ := hb
  have l1 : (txtCells a).length = a.length := by simp [txtCells]
  have l2 : (txtCells b).length = b.length := by simp [txtCells]
  rw [l1] at ha1 ⊢
  rw [l2] at hb1 ⊢
  refine enterV tab_ok Try.func22 rfl Try.ntmps22 rfl (St.start w) ?_
  refine cne (fun h => ?_) (fun h => ?_)
  · refine rt (congrArg Value.bool ?_)
    exact (decide_eq_false (by rintro rfl; exact h rfl)).symm
  have hl : a.length = b.length := by omega
  refine lp tab_ok (fun i : Nat => i ≤ a.length ∧ a.take i = b.take i) (fun i => ⟨[(0, .slice a1 a.length c1), (1, .slice a2 b.length c2), (12, .int .i64 a.length), (13, .int .i64 i)], [], []⟩) (fun i => a.length - i) 0 ⟨Nat.zero_le _, rfl⟩
    ⟨⟨rfl, rfl, rfl, rfl, trivial⟩, .nil, rfl⟩ ?_
  rintro i ⟨hi, hpre⟩
  refine cd (fun h => ?_) (fun h => ?_)
  · have hlt : i < a.length := by omega
    obtain ⟨p1, o1, d1, e1, hp1, hc1⟩ := rd_at ha1 (by intro h; rw [h] at l1; simp at l1; omega)
    obtain ⟨p2, o2, d2, e2, hp2, hc2⟩ := rd_at hb1 (by intro h; rw [h] at l2; simp at l2; omega)
    injection e1 with e1 _ e1'
    injection e2 with e2 _ e2'
    subst e1 e1' e2 e2'
    have hlb : i < b.length := by omega
    refine dr [] 99 (.t 0 (.t 1 (.t 2 (.t 3 (.t 4 (.t 5 (.t 6 (.t 7 (.t 8 .nil))))))))) tab_ok mixed_ok (by kernel_rfl) .nil ?_
    refine ⟨by omega, by omega, ?_⟩
    refine ldo (v := VS a[i]) (by rw [nad_eq, nmu_eq, Int.toNat_natCast, Nat.mul_one]; exact hc1 i _ (by simp [txtCells, hlt])) hp1 ?_
    refine ⟨by omega, by omega, ?_⟩
    refine ldo (v := VS b[i]) (by rw [nad_eq, nmu_eq, Int.toNat_natCast, Nat.mul_one]; exact hc2 i _ (by simp [txtCells, hlb])) hp2 ?_
    have hbe := list_beq a[i] b[i]
    by_cases he : a[i] = b[i]
    · refine cf (by show (!_) = false; rw [hbe, decide_eq_true he]; rfl) ?_
      refine .as ((i + 1 : Nat) : Int) (by simp) (by simp only [mn]; omega) (by simp only [mx]; omega) ?_
      refine ⟨i + 1, ⟨by omega, ?_⟩, by omega, ⟨⟨rfl, rfl, rfl, rfl, trivial⟩, .nil, rfl⟩⟩
      rw [List.take_succ_eq_append_getElem hlt, List.take_succ_eq_append_getElem hlb, hpre, he]
    · refine ct (by show (!_) = true; rw [hbe, decide_eq_false he]; rfl) ?_
      refine rt (congrArg Value.bool ?_)
      exact (decide_eq_false (fun h => he (by subst h; rfl))).symm
  · obtain rfl : i = a.length := by omega
    refine rt (congrArg Value.bool ?_)
    refine (decide_eq_true ?_).symm
    rw [List.take_of_length_le (Nat.le_refl _), List.take_of_length_le (by omega)] at hpre
    exact hpre
end Go.Proofs.Ytdgkaboaapfnmaa
