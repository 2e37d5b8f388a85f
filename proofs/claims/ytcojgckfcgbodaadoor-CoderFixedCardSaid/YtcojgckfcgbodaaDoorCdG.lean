/- coder.Sum, coder.Wide and the reference's: the walks. -/
import Derived.Test.YtcojgckfcgbodaaDoorCdF
namespace Go.Proofs.YtcojgckfcgbodaaDoor
open Go.RowKit Go.Sx
set_option linter.unusedVariables false

/-- so many bytes: those decoded, or zeros -/
def fixd (n : Nat) (o : Option (List UInt8)) : List UInt8 := match o with
  | some x => x
  | none => List.replicate n 0
def fillc (n : Nat) (x : List UInt8) (i : Nat) : Array Value := (Lib.byteCells (x.take i ++ List.replicate (n - i) 0)).toArray
theorem fillc_size (n : Nat) (x : List UInt8) (i : Nat) (hx : x.length = n) (hi : i ≤ n) : (fillc n x i).size = n := by
  simp [fillc, Lib.byteCells_length, hx]; omega
theorem fillc_set (n : Nat) (x : List UInt8) (i : Nat) (hx : x.length = n) (hi : i < n) : (fillc n x i).setIfInBounds i (.int .u8 ((x[i]'(by omega)).toNat : Nat)) = fillc n x (i + 1) := by
  apply Array.ext'
  have e1 : x.take (i + 1) = x.take i ++ [x[i]] := by rw [List.take_succ_eq_append_getElem (by omega)]
  have e2 : List.replicate (n - i) (0 : UInt8) = 0 :: List.replicate (n - (i + 1)) 0 := by rw [show n - i = (n - (i + 1)) + 1 by omega]; rfl
  unfold fillc
  rw [e1, e2]
  simp [Lib.byteCells]
  rw [List.set_append_right _ _ (by simp; omega)]
  rw [List.take_succ_eq_append_getElem (by simp; omega)]
  simp [hx, Nat.min_eq_left (Nat.le_of_lt hi)]
theorem fillc_full (n : Nat) (x : List UInt8) (hx : x.length = n) : fillc n x n = (Lib.byteCells x).toArray := by
  unfold fillc; rw [← hx]; simp
theorem bc_size (x : List UInt8) : (Lib.byteCells x).toArray.size = x.length := by simp [Lib.byteCells]
theorem bc_one (x : List UInt8) : (Lib.byteCells x).toArray.toList.all (·.oneCell') = true := List.all_eq_true.2 fun u hu => one8 x u (by simpa using hu)
theorem bc_pre (x : List UInt8) (j : List Value) (n : Nat) (hx : x.length = n) : (Lib.byteCells x ++ j).toArray.extract 0 (0 + n) = (Lib.byteCells x).toArray := by
  apply Array.ext'; subst hx; simp [Lib.byteCells]
theorem zsum : (Lib.byteCells (List.replicate 32 0)).toArray = (#[.int .u8 0, .int .u8 0, .int .u8 0, .int .u8 0, .int .u8 0, .int .u8 0, .int .u8 0, .int .u8 0, .int .u8 0, .int .u8 0, .int .u8 0, .int .u8 0, .int .u8 0, .int .u8 0, .int .u8 0, .int .u8 0, .int .u8 0, .int .u8 0, .int .u8 0, .int .u8 0, .int .u8 0, .int .u8 0, .int .u8 0, .int .u8 0, .int .u8 0, .int .u8 0, .int .u8 0, .int .u8 0, .int .u8 0, .int .u8 0, .int .u8 0, .int .u8 0] : Array Value) := by kernel_rfl
set_option maxRecDepth 100000 in
theorem sum_any (l : List UInt8) (hl : l.length ≤ 1000000) (w : World) : Calls Tryd.prog 20 ([.string ⟨l.toArray⟩] : List Value).toArray w fun e w' => e = .returned (.tuple #[.agg (Lib.byteCells (fixd 32 (exO 32 (decL hexS 4 l)))).toArray, match exO 32 (decL hexS 4 l) with | none => ErrV | some _ => .nilIface]) ∧ Below w.heap.size w w' := by
  refine enterV tab_ok Tryd.func20 rfl Tryd.ntmps20 rfl (St.start w) ?_
  intro b2
  refine cE (fun w' _ => exact_hex 32 (by decide) l hl w') (fun h1 => ?_) (fun x b j h1 => ?_)
  · rw [h1]
    refine ct rfl ?_
    refine bu (c := (Lib.byteCells (List.replicate 32 0)).toArray) (by kernel_rfl) ?_
    refine sN 0 rfl rfl (by kernel_rfl) ?_ (by kernel_rfl)
    refine ldN 0 rfl rfl ?_
    exact rt rfl
  · rw [h1]
    have hx := exO_len h1
    refine cf rfl ?_
    refine ⟨by omega, ?_⟩
    refine ldP 1 rfl (by rw [bc_size, hx]) (bc_pre x j 32 hx) ?_
    refine sN 0 rfl (by rw [bc_size, hx]; rfl) (bc_one x) ?_ (by rw [bc_size, hx]; kernel_rfl)
    refine ldN 0 rfl (by rw [bc_size, hx]) ?_
    exact rt rfl
set_option maxRecDepth 100000 in
theorem rsum_any (l : List UInt8) (hl : l.length ≤ 1000000) (w : World) (o : Option (List UInt8)) (ho : ∀ w, Calls Tryd.prog 17 ([.string ⟨l.toArray⟩] : List Value).toArray w (RefR w o)) :
    Calls Tryd.prog 22 ([.string ⟨l.toArray⟩] : List Value).toArray w fun e w' => e = .returned (.tuple #[.agg (Lib.byteCells (fixd 32 (exO 32 o))).toArray, .bool (exO 32 o).isSome]) ∧ Below w.heap.size w w' := by
  refine enterV tab_ok Tryd.func22 rfl Tryd.ntmps22 rfl (St.start w) ?_
  intro b2 b4
  have no : ∀ (σ : Fr) (L : List Ent), True := fun _ _ => trivial
  refine cR (fun w' _ => ho w') (fun h1 => ?_) (fun x r h1 hR => ?_)
  · rw [h1]
    iterate 3 refine cf rfl ?_
    refine ct rfl ?_
    refine ct rfl ?_
    refine ldN 1 rfl rfl ?_
    refine sN 0 rfl rfl (by kernel_rfl) ?_ (by kernel_rfl)
    refine ldN 0 rfl rfl ?_
    exact rt rfl
  · rw [h1]
    cases r with
    | none =>
      have h0 : x.length = 0 := hR.2
      have e1 : exO 32 (some x) = none := if_neg (by omega)
      rw [e1]
      iterate 3 refine ct rfl ?_
      refine cf rfl ?_
      refine ct (bne_iff_ne.2 (by show ((0 : Nat) : Int) ≠ _; omega)) ?_
      refine ldN 1 rfl rfl ?_
      refine sN 0 rfl rfl (by kernel_rfl) ?_ (by kernel_rfl)
      refine ldN 0 rfl rfl ?_
      exact rt rfl
    | some p =>
      obtain ⟨b, c, j⟩ := p
      iterate 3 refine ct rfl ?_
      refine cf rfl ?_
      refine cne (fun h => ?_) (fun h => ?_)
      · have e1 : exO 32 (some x) = none := if_neg (by omega)
        rw [e1]
        refine ldN 1 rfl rfl ?_
        refine sN 0 rfl rfl (by kernel_rfl) ?_ (by kernel_rfl)
        refine ldN 0 rfl rfl ?_
        exact rt rfl
      · have hx : x.length = 32 := by omega
        have e1 : exO 32 (some x) = some x := if_pos hx
        rw [e1]
        refine lp tab_ok (fun i : Nat => i ≤ 32) (fun i => ⟨[(2, ptr b2), (4, ptr b4), (5, .slice (some ⟨b, 0, none⟩) x.length c), (7, .int .i64 i)], [cl b2 (Lib.byteCells (List.replicate 32 0)).toArray 40, cl b4 (fillc 32 x i) 40, se (some (b, c, j)) (Lib.byteCells x) 5], []⟩) (fun i => 32 - i)
          0 (Nat.zero_le _) ⟨⟨rfl, rfl, rfl, rfl, trivial⟩, .cons (.cons (.cons .nil)), rfl⟩ ?_
        intro i hi
        refine cd (fun hin => ?_) (fun hin => ?_)
        · have hi' : i < 32 := by omega
          refine ⟨by omega, by omega, ?_⟩
          refine ld1 2 rfl (v := .int .u8 ((x[i]'(by omega)).toNat : Nat)) (by rw [nad_eq, nmu_eq]; simp [Lib.byteCells, List.getElem?_append, hx, hi']) ?_
          refine ⟨by omega, by omega, ?_⟩
          refine s1 1 rfl (by rw [nad_eq, nmu_eq, fillc_size 32 x i hx hi]; omega) ?_
          refine .as ((i + 1 : Nat) : Int) (by simp) (by simp only [mn]; omega) (by simp only [mx]; omega) ?_
          refine ⟨i + 1, by omega, by omega, ⟨⟨rfl, rfl, rfl, rfl, trivial⟩, ?_, rfl⟩⟩
          have e2 : (fillc 32 x i).setIfInBounds (nad 0 (nmu ((i : Nat) : Int).toNat 1)) (.int .u8 ((x[i]'(by omega)).toNat : Nat)) = fillc 32 x (i + 1) := by rw [nad_eq, nmu_eq, Int.toNat_natCast, Nat.mul_one, Nat.zero_add]; exact fillc_set 32 x i hx hi'
          rw [← e2]
          exact .cons (.cons (.cons .nil))
        · obtain rfl : i = 32 := by omega
          rw [fillc_full 32 x hx]
          refine ldN 1 rfl (by rw [bc_size, hx]) ?_
          refine sN 0 rfl (by rw [bc_size, hx]; rfl) (bc_one x) ?_ (by rw [bc_size, hx]; kernel_rfl)
          refine ldN 0 rfl (by rw [bc_size, hx]) ?_
          exact rt rfl

theorem zwide : (Lib.byteCells (List.replicate 64 0)).toArray = (#[.int .u8 0, .int .u8 0, .int .u8 0, .int .u8 0, .int .u8 0, .int .u8 0, .int .u8 0, .int .u8 0, .int .u8 0, .int .u8 0, .int .u8 0, .int .u8 0, .int .u8 0, .int .u8 0, .int .u8 0, .int .u8 0, .int .u8 0, .int .u8 0, .int .u8 0, .int .u8 0, .int .u8 0, .int .u8 0, .int .u8 0, .int .u8 0, .int .u8 0, .int .u8 0, .int .u8 0, .int .u8 0, .int .u8 0, .int .u8 0, .int .u8 0, .int .u8 0, .int .u8 0, .int .u8 0, .int .u8 0, .int .u8 0, .int .u8 0, .int .u8 0, .int .u8 0, .int .u8 0, .int .u8 0, .int .u8 0, .int .u8 0, .int .u8 0, .int .u8 0, .int .u8 0, .int .u8 0, .int .u8 0, .int .u8 0, .int .u8 0, .int .u8 0, .int .u8 0, .int .u8 0, .int .u8 0, .int .u8 0, .int .u8 0, .int .u8 0, .int .u8 0, .int .u8 0, .int .u8 0, .int .u8 0, .int .u8 0, .int .u8 0, .int .u8 0] : Array Value) := by kernel_rfl
set_option maxRecDepth 100000 in
theorem wide_any (l : List UInt8) (hl : l.length ≤ 1000000) (w : World) : Calls Tryd.prog 21 ([.string ⟨l.toArray⟩] : List Value).toArray w fun e w' => e = .returned (.tuple #[.agg (Lib.byteCells (fixd 64 (exO 64 (dec64 l)))).toArray, match exO 64 (dec64 l) with | none => ErrV | some _ => .nilIface]) ∧ Below w.heap.size w w' := by
  refine enterV tab_ok Tryd.func21 rfl Tryd.ntmps21 rfl (St.start w) ?_
  intro b2
  refine cE (fun w' _ => exact_b64 64 (by decide) l hl w') (fun h1 => ?_) (fun x b j h1 => ?_)
  · rw [h1]
    refine ct rfl ?_
    refine bu (c := (Lib.byteCells (List.replicate 64 0)).toArray) (by kernel_rfl) ?_
    refine sN 0 rfl rfl (by kernel_rfl) ?_ (by kernel_rfl)
    refine ldN 0 rfl rfl ?_
    exact rt rfl
  · rw [h1]
    have hx := exO_len h1
    refine cf rfl ?_
    refine ⟨by omega, ?_⟩
    refine ldP 1 rfl (by rw [bc_size, hx]) (bc_pre x j 64 hx) ?_
    refine sN 0 rfl (by rw [bc_size, hx]; rfl) (bc_one x) ?_ (by rw [bc_size, hx]; kernel_rfl)
    refine ldN 0 rfl (by rw [bc_size, hx]) ?_
    exact rt rfl
set_option maxRecDepth 100000 in
theorem rwide_any (l : List UInt8) (hl : l.length ≤ 1000000) (w : World) (o : Option (List UInt8)) (ho : ∀ w, Calls Tryd.prog 18 ([.string ⟨l.toArray⟩] : List Value).toArray w (RefR w o)) :
    Calls Tryd.prog 23 ([.string ⟨l.toArray⟩] : List Value).toArray w fun e w' => e = .returned (.tuple #[.agg (Lib.byteCells (fixd 64 (exO 64 o))).toArray, .bool (exO 64 o).isSome]) ∧ Below w.heap.size w w' := by
  refine enterV tab_ok Tryd.func23 rfl Tryd.ntmps23 rfl (St.start w) ?_
  intro b2 b4
  have no : ∀ (σ : Fr) (L : List Ent), True := fun _ _ => trivial
  refine cR (fun w' _ => ho w') (fun h1 => ?_) (fun x r h1 hR => ?_)
  · rw [h1]
    iterate 3 refine cf rfl ?_
    refine ct rfl ?_
    refine ct rfl ?_
    refine ldN 1 rfl rfl ?_
    refine sN 0 rfl rfl (by kernel_rfl) ?_ (by kernel_rfl)
    refine ldN 0 rfl rfl ?_
    exact rt rfl
  · rw [h1]
    cases r with
    | none =>
      have h0 : x.length = 0 := hR.2
      have e1 : exO 64 (some x) = none := if_neg (by omega)
      rw [e1]
      iterate 3 refine ct rfl ?_
      refine cf rfl ?_
      refine ct (bne_iff_ne.2 (by show ((0 : Nat) : Int) ≠ _; omega)) ?_
      refine ldN 1 rfl rfl ?_
      refine sN 0 rfl rfl (by kernel_rfl) ?_ (by kernel_rfl)
      refine ldN 0 rfl rfl ?_
      exact rt rfl
    | some p =>
      obtain ⟨b, c, j⟩ := p
      iterate 3 refine ct rfl ?_
      refine cf rfl ?_
      refine cne (fun h => ?_) (fun h => ?_)
      · have e1 : exO 64 (some x) = none := if_neg (by omega)
        rw [e1]
        refine ldN 1 rfl rfl ?_
        refine sN 0 rfl rfl (by kernel_rfl) ?_ (by kernel_rfl)
        refine ldN 0 rfl rfl ?_
        exact rt rfl
      · have hx : x.length = 64 := by omega
        have e1 : exO 64 (some x) = some x := if_pos hx
        rw [e1]
        refine lp tab_ok (fun i : Nat => i ≤ 64) (fun i => ⟨[(2, ptr b2), (4, ptr b4), (5, .slice (some ⟨b, 0, none⟩) x.length c), (7, .int .i64 i)], [cl b2 (Lib.byteCells (List.replicate 64 0)).toArray 44, cl b4 (fillc 64 x i) 44, se (some (b, c, j)) (Lib.byteCells x) 5], []⟩) (fun i => 64 - i)
          0 (Nat.zero_le _) ⟨⟨rfl, rfl, rfl, rfl, trivial⟩, .cons (.cons (.cons .nil)), rfl⟩ ?_
        intro i hi
        refine cd (fun hin => ?_) (fun hin => ?_)
        · have hi' : i < 64 := by omega
          refine ⟨by omega, by omega, ?_⟩
          refine ld1 2 rfl (v := .int .u8 ((x[i]'(by omega)).toNat : Nat)) (by rw [nad_eq, nmu_eq]; simp [Lib.byteCells, List.getElem?_append, hx, hi']) ?_
          refine ⟨by omega, by omega, ?_⟩
          refine s1 1 rfl (by rw [nad_eq, nmu_eq, fillc_size 64 x i hx hi]; omega) ?_
          refine .as ((i + 1 : Nat) : Int) (by simp) (by simp only [mn]; omega) (by simp only [mx]; omega) ?_
          refine ⟨i + 1, by omega, by omega, ⟨⟨rfl, rfl, rfl, rfl, trivial⟩, ?_, rfl⟩⟩
          have e2 : (fillc 64 x i).setIfInBounds (nad 0 (nmu ((i : Nat) : Int).toNat 1)) (.int .u8 ((x[i]'(by omega)).toNat : Nat)) = fillc 64 x (i + 1) := by rw [nad_eq, nmu_eq, Int.toNat_natCast, Nat.mul_one, Nat.zero_add]; exact fillc_set 64 x i hx hi'
          rw [← e2]
          exact .cons (.cons (.cons .nil))
        · obtain rfl : i = 64 := by omega
          rw [fillc_full 64 x hx]
          refine ldN 1 rfl (by rw [bc_size, hx]) ?_
          refine sN 0 rfl (by rw [bc_size, hx]; rfl) (bc_one x) ?_ (by rw [bc_size, hx]; kernel_rfl)
          refine ldN 0 rfl (by rw [bc_size, hx]) ?_
          exact rt rfl

end Go.Proofs.YtcojgckfcgbodaaDoor
