/- What the frames of the rows share: a key (32 bytes by value) that came in is the figures of a number. -/
import Derived.Test.YtjiagjonlcadiaaRefE
import Derived.Test.YtjiagjonlcadiaaRows
import Derived.WalkKit
import Derived.ProofKit
import Derived.OpenShut
import Derived.ShutString
import Derived.ChangeOld
import Derived.Below
namespace Go.Proofs.Ytjiagjonlcadiaa
open Go.ChangeShapes Go.WideShapes Go.ChangeAt Go.RowKit

theorem own : ownKnob Try.prog.godebug = none := by kernel_rfl
theorem laidOut : laidOutB Try.prog = true := by kernel_rfl
theorem cells24 : Try.prog.cellsOf 24 = 32 := by kernel_rfl
theorem cells5 : Try.prog.cellsOf 5 = 1 := by kernel_rfl

set_option maxRecDepth 100000 in
theorem okWide_arr {w : World} {r : Reach} {b0 : Nat} {t e : TypeId} {n : Nat} {v : Value} (ht : Try.prog.underlying t = some (.array n e)) (h : Value.okWide Try.prog w r b0 t v) : ∃ cs, v = .agg cs ∧ cs.size = Try.prog.cellsOf t := by
  simp only [Value.okWide, ht] at h
  obtain ⟨cs, h1, h2, _⟩ := h
  exact ⟨cs, h1, h2⟩


set_option maxRecDepth 100000 in
theorem fig_number (f : Nat → Int) (hf : ∀ i, i < 32 → 0 ≤ f i ∧ f i < 256) : ∃ n : Nat, n < 115792089237316195423570985008687907853269984665640564039457584007913129639936 ∧ row .u8 32 f = k32 n := by
  have h0 := sumf_nonneg 256 (by omega) f 32 (fun i hi => (hf i hi).1)
  have h1 := sumf_lt 256 (by omega) f 32 (fun i hi => (hf i hi).2)
  obtain ⟨n, hn⟩ := Int.eq_ofNat_of_zero_le h0
  refine ⟨n, ?_, ?_⟩
  · have e : (256 : Int) ^ 32 = 115792089237316195423570985008687907853269984665640564039457584007913129639936 := by decide +kernel
    rw [hn, e] at h1; omega
  · exact row_ext _ _ _ _ (sumf_uniq 256 f n 32 (fun i hi => hf i hi) hn)

set_option maxRecDepth 100000 in
theorem open_key {H : Type} {enc : TypeId × Value → H} {w : World} {base : Nat} {spare : Nat → Bool} {held : Bool} {r : Reach} {b0 : Nat} {v : Value} {d : DataW H} {p : List MemPlace}
    (hv : Value.okWide Try.prog w r b0 24 v) (h : DataW.Trod enc Try.prog w base spare held 24 v d p) : ∃ n : Nat, n < 115792089237316195423570985008687907853269984665640564039457584007913129639936 ∧ v = .agg (k32 n) := by
  obtain ⟨cs, rfl, hsz⟩ := okWide_arr Try.underlying24 hv
  rw [cells24] at hsz
  obtain ⟨fuel, hf⟩ := h
  obtain ⟨xs, m, _, _, _, hl, hel⟩ := DataW.trod_array Try.underlying24 hf
  have hz : ∀ i : Nat, ∃ z : Int, i < 32 → cs[i]? = some (.int .u8 z) ∧ (Lit.int .u8 z).wf = true := by
    intro i
    by_cases hi : i < 32
    · have hE := hel i hi
      rw [cells5, Nat.mul_one, List.getElem?_eq_getElem (by omega)] at hE
      obtain ⟨z, e1, _, e3⟩ := DataW.trod_int Try.underlying5 hE
      refine ⟨z, fun _ => ⟨?_, e3⟩⟩
      have h0 : (((Value.agg cs).cells.toList.drop i).take 1)[0]? = some (.int .u8 z) := by rw [e1]; rfl
      simpa [Value.cells] using h0
    · exact ⟨0, fun h => absurd h hi⟩
  obtain ⟨f, hf2⟩ := Classical.skolem.1 hz
  obtain ⟨n, hn, he⟩ := fig_number f (fun i hi => by
    have := bounds_u8 (hf2 i hi).2
    omega)
  refine ⟨n, hn, ?_⟩
  rw [← he]
  congr 1
  apply Array.ext_getElem?
  intro j
  by_cases hj : j < 32
  · rw [(hf2 j hj).1, row_get _ _ _ _ hj]
  · rw [row_none _ _ _ _ hj]; simp; omega
end Go.Proofs.Ytjiagjonlcadiaa
