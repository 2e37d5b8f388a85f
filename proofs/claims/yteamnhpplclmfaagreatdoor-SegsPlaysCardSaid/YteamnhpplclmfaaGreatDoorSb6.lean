/- A store of records, its disk and its records, walked and in plain words; the fixed fact. -/
import Derived.OpenShut
import Derived.Deep.Slices
import Derived.Test.YteamnhpplclmfaaGreatDoorSb5
section
namespace Go.Proofs.YteamnhpplclmfaaGreatDoor
open Go.ChangeShapes Go.WideShapes Go.ChangeAt Go.RowKit Go.Sx
set_option linter.unusedVariables false
theorem cellsU64 : Tryz.prog.cellsOf 176 = 1 := by kernel_rfl
def powL : List (DataW Unit) := (List.range 20).map fun i => .lit (.int .u64 (10 ^ i : Nat))
theorem pow_eq : (Rows.laid_internal_strconv_uint64pow10 : DataW Unit) = .agg powL := by kernel_rfl
set_option maxRecDepth 100000 in
/-- the table lies where the program looks -/
theorem laid_of {W : World} (h : laidMetH Tryz.prog [("math/bits.deBruijn32tab", Rows.laid_math_bits_deBruijn32tab), ("math/bits.deBruijn64tab", Rows.laid_math_bits_deBruijn64tab), ("internal/strconv.uint64pow10", Rows.laid_internal_strconv_uint64pow10)] W) : Laid W := by
  rw [MakeChecks.laidMetH_plain _ _ _ (by kernel_rfl)] at h
  obtain ⟨ps, ⟨g1, t1, cs1, f1, p1, q1, hg1, ht1, hv1, hd1, ⟨g2, t2, cs2, f2, p2, q2, hg2, ht2, hv2, hd2, ⟨g3, t3, cs3, f3, p3, q3, hg3, ht3, hv3, hd3, _, _⟩, _⟩, _⟩, _, _⟩ := h
  obtain rfl := Option.some.inj ((show Tryz.prog.globalNamed "internal/strconv.uint64pow10" = some 0 by kernel_rfl).symm.trans hg3)
  obtain rfl := Option.some.inj ((show (Tryz.prog.globals[0]?).map (·.type) = some 201 by kernel_rfl).symm.trans ht3)
  have hf : ∀ i, i < 20 → W.cell? ⟨0, i, none⟩ = some (.int .u64 (10 ^ i : Nat)) := by
    intro r hr
    rw [pow_eq] at hd3
    obtain ⟨xs, m, _, ex, _, hl, hel⟩ := DataW.trod_array Tryz.underlying201 hd3
    have hE := hel r hr
    rw [cellsU64, Nat.mul_one, List.getElem?_eq_getElem (by omega)] at hE
    obtain ⟨z, e1, e2, _⟩ := DataW.trod_int Tryz.underlying176 hE
    have e3 : (xs.map (·.1)) = powL := (DataW.agg.inj (Prod.mk.inj ex).1).symm
    have e4 : (xs.map (·.1))[r]? = powL[r]? := by rw [e3]
    rw [List.getElem?_map, List.getElem?_eq_getElem (by omega : r < xs.length), e2] at e4
    have hz : z = ((10 ^ r : Nat) : Int) := by
      unfold powL at e4
      rw [List.getElem?_map, List.getElem?_eq_getElem (by simpa using hr), List.getElem_range] at e4
      simp only [Option.map_some, Option.some.injEq, DataW.lit.injEq, Lit.int.injEq, true_and] at e4
      exact e4
    rw [World.var?_cell hg3 hv3 r, ← hz]
    have : cs3.toList[r]? = some (.int .u64 z) := by
      have h0 : ((cs3.toList.drop r).take 1)[0]? = some (.int .u64 z) := by rw [e1]; rfl
      simpa using h0
    simpa using this
  exact ⟨World.block_lt_of_cell? W _ (hf 0 (by omega)), hf⟩
end Go.Proofs.YteamnhpplclmfaaGreatDoor
end
