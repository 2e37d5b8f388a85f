/- The disk laws' large: the walk. -/
import Derived.Test.YtdgkaboaapfnmaaDvA
import Derived.Test.YtdgkaboaapfnmaaFsc
namespace Go.Proofs.Ytdgkaboaapfnmaa
open Go.RowKit Go.Sx
set_option linter.unusedVariables false

set_option maxRecDepth 100000 in
set_option maxHeartbeats 4000000 in
theorem large_any (v : Value) (n : Nat) (O : Nat → Opn × Value) (w : World) (hS : Scr w v n O) : Calls Try.prog 10 ([v] : List Value).toArray w fun e w' => e = .returned (.bool (bigS O n)) ∧ Below w.heap.size w w' := by
  obtain ⟨hn, a, c, rfl, hS⟩ := hS
  have hmx : maxLen ≤ 9223372036854775807 := by decide
  refine enterV tab_ok Try.func10 rfl Try.ntmps10 rfl (St.start w) ?_
  refine lp tab_ok (fun i : Nat => i ≤ n ∧ bigS O i = false) (fun i => ⟨[(5, .slice a n c), (6, .int .i64 n), (7, .int .i64 i)], [], []⟩) (fun i => n - i) 0 ⟨Nat.zero_le _, rfl⟩ ⟨⟨rfl, rfl, rfl, trivial⟩, .nil, rfl⟩ ?_
  rintro i ⟨hi, hbg⟩
  refine cd (fun h => ?_) (fun h => ?_)
  · have hil : i < n := by omega
    have hact := hS i hil
    have hany : bigO i (O i).1 = true → bigS O n = true := fun h => List.any_eq_true.2 ⟨i, List.mem_range.2 hil, h⟩
    have hnone : bigO i (O i).1 = false → bigS O (i + 1) = false := fun h => by
      unfold bigS at hbg ⊢
      rw [List.range_succ, List.any_append, hbg]; simp [h]
    obtain ⟨q, hq⟩ : ∃ q, q = O i := ⟨_, rfl⟩
    rw [← hq] at hact hany hnone
    obtain ⟨o, bv⟩ := q
    obtain ⟨⟨b, off, rfl, hb, hc⟩, hrd, _⟩ := hact
    obtain ⟨ba, bc, hbv⟩ : ∃ a c, bv = .slice a o.b.length c := by obtain ⟨a, c, e, _⟩ := hrd; exact ⟨a, c, by simpa [Lib.byteCells_length] using e⟩
    subst hbv
    simp only at hany hnone
    refine ⟨by omega, by omega, ?_⟩
    refine ldoN (d := #[.int .i64 o.kind, VS o.name, VS o.to, .int .i64 o.n, .slice ba o.b.length bc]) (fun j u hu => by rw [nad_eq, nmu_eq, Int.toNat_natCast]; exact hc j u hu) hb rfl ?_
    intro b4
    refine sN 0 rfl rfl rfl ?_ (by kernel_rfl)
    by_cases h0 : 80 < i
    · have d1 : decide (((i : Nat) : Int) > 80) = true := decide_eq_true (by omega)
      have d2 : (decide (((i : Nat) : Int) > 80) == false) = false := by rw [d1]; rfl
      iterate 4 refine cf d2 ?_
      refine ct d1 ?_
      iterate 4 refine cf rfl ?_
      refine ct rfl ?_
      iterate 4 refine cf rfl ?_
      refine ct rfl ?_
      refine ct rfl ?_
      exact rt (congrArg Value.bool (hany (by simp [bigO, h0])).symm)
    · have d1 : decide (((i : Nat) : Int) > 80) = false := decide_eq_false (by omega)
      have d2 : (decide (((i : Nat) : Int) > 80) == false) = true := by rw [d1]; rfl
      iterate 2 refine ct d2 ?_
      refine ld1 0 rfl (v := .slice ba o.b.length bc) rfl ?_
      iterate 2 refine ct d2 ?_
      refine cf d1 ?_
      by_cases h1 : 300 < o.b.length
      · have d1 : decide (((o.b.length : Nat) : Int) > 300) = true := decide_eq_true (by omega)
        have d2 : (decide (((o.b.length : Nat) : Int) > 300) == false) = false := by rw [d1]; rfl
        iterate 4 refine cf d2 ?_
        refine ct d1 ?_
        iterate 4 refine cf rfl ?_
        refine ct rfl ?_
        refine ct rfl ?_
        exact rt (congrArg Value.bool (hany (by simp [bigO, h1])).symm)
      · have d1 : decide (((o.b.length : Nat) : Int) > 300) = false := decide_eq_false (by omega)
        have d2 : (decide (((o.b.length : Nat) : Int) > 300) == false) = true := by rw [d1]; rfl
        iterate 2 refine ct d2 ?_
        refine ld1 0 rfl (v := VS o.name) rfl ?_
        iterate 2 refine ct d2 ?_
        refine cf d1 ?_
        by_cases h2 : 200 < o.name.length
        · have d1 : decide ((((ByteArray.mk o.name.toArray).size : Nat) : Int) > 200) = true := decide_eq_true (by rw [size_mk]; omega)
          have d2 : (decide ((((ByteArray.mk o.name.toArray).size : Nat) : Int) > 200) == false) = false := by rw [d1]; rfl
          iterate 4 refine cf d2 ?_
          refine ct d1 ?_
          refine ct rfl ?_
          exact rt (congrArg Value.bool (hany (by simp [bigO, h2])).symm)
        · have d1 : decide ((((ByteArray.mk o.name.toArray).size : Nat) : Int) > 200) = false := decide_eq_false (by rw [size_mk]; omega)
          have d2 : (decide ((((ByteArray.mk o.name.toArray).size : Nat) : Int) > 200) == false) = true := by rw [d1]; rfl
          iterate 2 refine ct d2 ?_
          refine ld1 0 rfl (v := VS o.to) rfl ?_
          iterate 2 refine ct d2 ?_
          refine cf d1 ?_
          by_cases h3 : 200 < o.to.length
          · have d1 : decide ((((ByteArray.mk o.to.toArray).size : Nat) : Int) > 200) = true := decide_eq_true (by rw [size_mk]; omega)
            have d2 : (decide ((((ByteArray.mk o.to.toArray).size : Nat) : Int) > 200) == false) = false := by rw [d1]; rfl
            refine ct d1 ?_
            exact rt (congrArg Value.bool (hany (by simp [bigO, h3])).symm)
          · have d1 : decide ((((ByteArray.mk o.to.toArray).size : Nat) : Int) > 200) = false := decide_eq_false (by rw [size_mk]; omega)
            have d2 : (decide ((((ByteArray.mk o.to.toArray).size : Nat) : Int) > 200) == false) = true := by rw [d1]; rfl
            refine cf d1 ?_
            refine .as ((i + 1 : Nat) : Int) (by simp) (by simp only [mn]; omega) (by simp only [mx]; omega) ?_
            exact ⟨i + 1, ⟨by omega, hnone (by simp [bigO, h0, h1, h2, h3])⟩, by omega, ⟨⟨rfl, rfl, rfl, trivial⟩, .nil, rfl⟩⟩
  · obtain rfl : i = n := by omega
    exact rt (congrArg Value.bool hbg.symm)
end Go.Proofs.Ytdgkaboaapfnmaa
