/- The reference's disk: Named, At, Used, step: the walks. -/
import Derived.Test.YtdgkaboaapfnmaaDrA
namespace Go.Proofs.Ytdgkaboaapfnmaa
open Go.RowKit Go.Sx
set_option linter.unusedVariables false

set_option maxRecDepth 100000 in
set_option maxHeartbeats 4000000 in
theorem rnamed_any (l : List UInt8) (hl : l.length ≤ 1000000) (w : World) : Calls Try.prog 59 ([VS l] : List Value).toArray w fun e w' => e = .returned (.bool (namedL l)) ∧ Below w.heap.size w w' := by
  refine enterV tab_ok Try.func59 rfl Try.ntmps59 rfl (St.start w) ?_
  have hs := size_mk l
  by_cases h1 : l.length < 1
  · have d1 : decide (((ByteArray.mk l.toArray).size : Int) < 1) = true := decide_eq_true (by rw [hs]; omega)
    have d2 : (decide (((ByteArray.mk l.toArray).size : Int) < 1) == false) = false := by rw [d1]; rfl
    iterate 3 refine cf d2 ?_
    refine ct d1 ?_
    refine ct rfl ?_
    refine rt (congrArg Value.bool ?_)
    unfold namedL; rw [decide_eq_false (show ¬ 1 ≤ l.length by omega)]; rfl
  · have d1 : decide (((ByteArray.mk l.toArray).size : Int) < 1) = false := decide_eq_false (by rw [hs]; omega)
    have d2 : (decide (((ByteArray.mk l.toArray).size : Int) < 1) == false) = true := by rw [d1]; rfl
    iterate 3 refine ct d2 ?_
    refine cf d1 ?_
    by_cases h2 : 64 < l.length
    · refine ct (decide_eq_true (by rw [hs]; omega)) ?_
      refine rt (congrArg Value.bool ?_)
      unfold namedL; rw [decide_eq_false (show ¬ l.length ≤ 64 by omega), Bool.and_false]; rfl
    · refine cf (decide_eq_false (by rw [hs]; omega)) ?_
      refine lp tab_ok (fun i : Nat => i ≤ l.length ∧ (l.take i).all nameB = true) (fun i => ⟨[(0, VS l), (3, .int .i64 i)], [], []⟩) (fun i => l.length - i) 0 ⟨Nat.zero_le _, rfl⟩ ⟨⟨rfl, rfl, trivial⟩, .nil, rfl⟩ ?_
      rintro i ⟨hi, hall⟩
      refine cd (fun h => ?_) (fun h => ?_)
      · have hlt : i < l.length := by rw [hs] at h; omega
        refine ⟨by omega, by rw [hs]; omega, ?_⟩
        have hgi : ((ByteArray.mk l.toArray)[((i : Nat) : Int).toNat]'(by rw [hs]; omega)) = l[i] := by
          show l.toArray[((i : Nat) : Int).toNat]'_ = _
          simp
        rw [hgi]
        have htk : l.take (i + 1) = l.take i ++ [l[i]] := List.take_succ_eq_append_getElem hlt
        have hok : nameN l[i].toNat = true → (l.take (i + 1)).all nameB = true := fun h => by rw [htk, List.all_append, hall]; simpa [nameB] using h
        have hno : nameN l[i].toNat = false → namedL l = false := fun h => by
          have : l.all nameB = false := List.all_eq_false.2 ⟨l[i], List.getElem_mem hlt, by simp [nameB, h]⟩
          unfold namedL; rw [this, Bool.and_false]
        generalize l[i].toNat = n at *
        by_cases h0 : 97 ≤ n
        · have d1 : decide ((n : Int) ≥ 97) = true := decide_eq_true (by omega)
          have d2 : (decide ((n : Int) ≥ 97) == true) = true := by rw [d1]; rfl
          refine ct d2 ?_
          refine ct d2 ?_
          refine ct d1 ?_
          by_cases g0 : n ≤ 122
          · have e5 : decide ((n : Int) ≤ 122) = true := decide_eq_true (by omega)
            by_cases h1 : 48 ≤ n
            · have d1 : decide ((n : Int) ≥ 48) = true := decide_eq_true (by omega)
              have d2 : (decide ((n : Int) ≥ 48) == true) = true := by rw [d1]; rfl
              refine ct d2 ?_
              refine ct d2 ?_
              refine ct d1 ?_
              by_cases g1 : n ≤ 57
              · have e6 : decide ((n : Int) ≤ 57) = true := decide_eq_true (by omega)
                refine cf (by first | rfl | (rw [e5]; rfl)) ?_
                refine cf (by first | rfl | (rw [e5]; rfl)) ?_
                refine cf (by first | rfl | (rw [e5]; rfl)) ?_
                refine cf rfl ?_
                refine cf rfl ?_
                refine cf rfl ?_
                refine cf rfl ?_
                refine cf rfl ?_
                refine cf rfl ?_
                refine cf rfl ?_
                refine .as ((i + 1 : Nat) : Int) (by simp) (by simp only [mn]; omega) (by simp only [mx]; omega) ?_
                exact ⟨i + 1, ⟨by omega, hok (by unfold nameN; simp; omega)⟩, by omega, ⟨⟨rfl, rfl, trivial⟩, .nil, rfl⟩⟩
              · have e6 : decide ((n : Int) ≤ 57) = false := decide_eq_false (by omega)
                refine cf (by first | rfl | (rw [e5]; rfl)) ?_
                refine cf (by first | rfl | (rw [e5]; rfl)) ?_
                refine cf (by first | rfl | (rw [e5]; rfl)) ?_
                refine cf rfl ?_
                refine cf rfl ?_
                refine cf rfl ?_
                refine cf rfl ?_
                refine cf rfl ?_
                refine cf rfl ?_
                refine cf rfl ?_
                refine .as ((i + 1 : Nat) : Int) (by simp) (by simp only [mn]; omega) (by simp only [mx]; omega) ?_
                exact ⟨i + 1, ⟨by omega, hok (by unfold nameN; simp; omega)⟩, by omega, ⟨⟨rfl, rfl, trivial⟩, .nil, rfl⟩⟩
            · have d1 : decide ((n : Int) ≥ 48) = false := decide_eq_false (by omega)
              have d2 : (decide ((n : Int) ≥ 48) == true) = false := by rw [d1]; rfl
              refine cf d2 ?_
              refine cf d2 ?_
              refine cf d1 ?_
              have e6 : false = false := rfl
              refine cf (by first | rfl | (rw [e5]; rfl)) ?_
              refine cf (by first | rfl | (rw [e5]; rfl)) ?_
              refine cf (by first | rfl | (rw [e5]; rfl)) ?_
              refine cf rfl ?_
              refine cf rfl ?_
              refine cf rfl ?_
              refine cf rfl ?_
              refine cf rfl ?_
              refine cf rfl ?_
              refine cf rfl ?_
              refine .as ((i + 1 : Nat) : Int) (by simp) (by simp only [mn]; omega) (by simp only [mx]; omega) ?_
              exact ⟨i + 1, ⟨by omega, hok (by unfold nameN; simp; omega)⟩, by omega, ⟨⟨rfl, rfl, trivial⟩, .nil, rfl⟩⟩
          · have e5 : decide ((n : Int) ≤ 122) = false := decide_eq_false (by omega)
            by_cases h1 : 48 ≤ n
            · have d1 : decide ((n : Int) ≥ 48) = true := decide_eq_true (by omega)
              have d2 : (decide ((n : Int) ≥ 48) == true) = true := by rw [d1]; rfl
              refine ct d2 ?_
              refine ct d2 ?_
              refine ct d1 ?_
              by_cases g1 : n ≤ 57
              · have e6 : decide ((n : Int) ≤ 57) = true := decide_eq_true (by omega)
                refine ct (by first | rfl | (rw [e5]; rfl)) ?_
                refine ct (by first | rfl | (rw [e5]; rfl)) ?_
                refine ct (by first | rfl | (rw [e5]; rfl)) ?_
                refine cf (by first | rfl | (rw [e6]; rfl)) ?_
                refine cf (by first | rfl | (rw [e6]; rfl)) ?_
                refine cf (by first | rfl | (rw [e6]; rfl)) ?_
                refine cf rfl ?_
                refine cf rfl ?_
                refine cf rfl ?_
                refine cf rfl ?_
                refine .as ((i + 1 : Nat) : Int) (by simp) (by simp only [mn]; omega) (by simp only [mx]; omega) ?_
                exact ⟨i + 1, ⟨by omega, hok (by unfold nameN; simp; omega)⟩, by omega, ⟨⟨rfl, rfl, trivial⟩, .nil, rfl⟩⟩
              · have e6 : decide ((n : Int) ≤ 57) = false := decide_eq_false (by omega)
                refine ct (by first | rfl | (rw [e5]; rfl)) ?_
                refine ct (by first | rfl | (rw [e5]; rfl)) ?_
                refine ct (by first | rfl | (rw [e5]; rfl)) ?_
                refine ct (by first | rfl | (rw [e6]; rfl)) ?_
                refine ct (by first | rfl | (rw [e6]; rfl)) ?_
                refine ct (by first | rfl | (rw [e6]; rfl)) ?_
                by_cases h46 : n = 46
                · have e7 : ((n : Int) != 46) = false := by rw [h46]; rfl
                  refine cf (by rw [e7]; rfl) ?_
                  refine cf (by rw [e7]; rfl) ?_
                  refine cf e7 ?_
                  refine cf rfl ?_
                  refine .as ((i + 1 : Nat) : Int) (by simp) (by simp only [mn]; omega) (by simp only [mx]; omega) ?_
                  exact ⟨i + 1, ⟨by omega, hok (by unfold nameN; simp; omega)⟩, by omega, ⟨⟨rfl, rfl, trivial⟩, .nil, rfl⟩⟩
                · have e7 : ((n : Int) != 46) = true := bne_iff_ne.2 (by omega)
                  refine ct (by rw [e7]; rfl) ?_
                  refine ct (by rw [e7]; rfl) ?_
                  refine ct e7 ?_
                  by_cases h45 : n = 45
                  · refine cf (by rw [h45]; rfl) ?_
                    refine .as ((i + 1 : Nat) : Int) (by simp) (by simp only [mn]; omega) (by simp only [mx]; omega) ?_
                    exact ⟨i + 1, ⟨by omega, hok (by unfold nameN; simp; omega)⟩, by omega, ⟨⟨rfl, rfl, trivial⟩, .nil, rfl⟩⟩
                  · refine ct (bne_iff_ne.2 (by omega)) ?_
                    exact rt (congrArg Value.bool (hno (by unfold nameN; simp; omega)).symm)
            · have d1 : decide ((n : Int) ≥ 48) = false := decide_eq_false (by omega)
              have d2 : (decide ((n : Int) ≥ 48) == true) = false := by rw [d1]; rfl
              refine cf d2 ?_
              refine cf d2 ?_
              refine cf d1 ?_
              have e6 : false = false := rfl
              refine ct (by first | rfl | (rw [e5]; rfl)) ?_
              refine ct (by first | rfl | (rw [e5]; rfl)) ?_
              refine ct (by first | rfl | (rw [e5]; rfl)) ?_
              refine ct (by first | rfl | (rw [e6]; rfl)) ?_
              refine ct (by first | rfl | (rw [e6]; rfl)) ?_
              refine ct (by first | rfl | (rw [e6]; rfl)) ?_
              by_cases h46 : n = 46
              · have e7 : ((n : Int) != 46) = false := by rw [h46]; rfl
                refine cf (by rw [e7]; rfl) ?_
                refine cf (by rw [e7]; rfl) ?_
                refine cf e7 ?_
                refine cf rfl ?_
                refine .as ((i + 1 : Nat) : Int) (by simp) (by simp only [mn]; omega) (by simp only [mx]; omega) ?_
                exact ⟨i + 1, ⟨by omega, hok (by unfold nameN; simp; omega)⟩, by omega, ⟨⟨rfl, rfl, trivial⟩, .nil, rfl⟩⟩
              · have e7 : ((n : Int) != 46) = true := bne_iff_ne.2 (by omega)
                refine ct (by rw [e7]; rfl) ?_
                refine ct (by rw [e7]; rfl) ?_
                refine ct e7 ?_
                by_cases h45 : n = 45
                · refine cf (by rw [h45]; rfl) ?_
                  refine .as ((i + 1 : Nat) : Int) (by simp) (by simp only [mn]; omega) (by simp only [mx]; omega) ?_
                  exact ⟨i + 1, ⟨by omega, hok (by unfold nameN; simp; omega)⟩, by omega, ⟨⟨rfl, rfl, trivial⟩, .nil, rfl⟩⟩
                · refine ct (bne_iff_ne.2 (by omega)) ?_
                  exact rt (congrArg Value.bool (hno (by unfold nameN; simp; omega)).symm)
        · have d1 : decide ((n : Int) ≥ 97) = false := decide_eq_false (by omega)
          have d2 : (decide ((n : Int) ≥ 97) == true) = false := by rw [d1]; rfl
          refine cf d2 ?_
          refine cf d2 ?_
          refine cf d1 ?_
          have e5 : false = false := rfl
          by_cases h1 : 48 ≤ n
          · have d1 : decide ((n : Int) ≥ 48) = true := decide_eq_true (by omega)
            have d2 : (decide ((n : Int) ≥ 48) == true) = true := by rw [d1]; rfl
            refine ct d2 ?_
            refine ct d2 ?_
            refine ct d1 ?_
            by_cases g1 : n ≤ 57
            · have e6 : decide ((n : Int) ≤ 57) = true := decide_eq_true (by omega)
              refine ct (by first | rfl | (rw [e5]; rfl)) ?_
              refine ct (by first | rfl | (rw [e5]; rfl)) ?_
              refine ct (by first | rfl | (rw [e5]; rfl)) ?_
              refine cf (by first | rfl | (rw [e6]; rfl)) ?_
              refine cf (by first | rfl | (rw [e6]; rfl)) ?_
              refine cf (by first | rfl | (rw [e6]; rfl)) ?_
              refine cf rfl ?_
              refine cf rfl ?_
              refine cf rfl ?_
              refine cf rfl ?_
              refine .as ((i + 1 : Nat) : Int) (by simp) (by simp only [mn]; omega) (by simp only [mx]; omega) ?_
              exact ⟨i + 1, ⟨by omega, hok (by unfold nameN; simp; omega)⟩, by omega, ⟨⟨rfl, rfl, trivial⟩, .nil, rfl⟩⟩
            · have e6 : decide ((n : Int) ≤ 57) = false := decide_eq_false (by omega)
              refine ct (by first | rfl | (rw [e5]; rfl)) ?_
              refine ct (by first | rfl | (rw [e5]; rfl)) ?_
              refine ct (by first | rfl | (rw [e5]; rfl)) ?_
              refine ct (by first | rfl | (rw [e6]; rfl)) ?_
              refine ct (by first | rfl | (rw [e6]; rfl)) ?_
              refine ct (by first | rfl | (rw [e6]; rfl)) ?_
              by_cases h46 : n = 46
              · have e7 : ((n : Int) != 46) = false := by rw [h46]; rfl
                refine cf (by rw [e7]; rfl) ?_
                refine cf (by rw [e7]; rfl) ?_
                refine cf e7 ?_
                refine cf rfl ?_
                refine .as ((i + 1 : Nat) : Int) (by simp) (by simp only [mn]; omega) (by simp only [mx]; omega) ?_
                exact ⟨i + 1, ⟨by omega, hok (by unfold nameN; simp; omega)⟩, by omega, ⟨⟨rfl, rfl, trivial⟩, .nil, rfl⟩⟩
              · have e7 : ((n : Int) != 46) = true := bne_iff_ne.2 (by omega)
                refine ct (by rw [e7]; rfl) ?_
                refine ct (by rw [e7]; rfl) ?_
                refine ct e7 ?_
                by_cases h45 : n = 45
                · refine cf (by rw [h45]; rfl) ?_
                  refine .as ((i + 1 : Nat) : Int) (by simp) (by simp only [mn]; omega) (by simp only [mx]; omega) ?_
                  exact ⟨i + 1, ⟨by omega, hok (by unfold nameN; simp; omega)⟩, by omega, ⟨⟨rfl, rfl, trivial⟩, .nil, rfl⟩⟩
                · refine ct (bne_iff_ne.2 (by omega)) ?_
                  exact rt (congrArg Value.bool (hno (by unfold nameN; simp; omega)).symm)
          · have d1 : decide ((n : Int) ≥ 48) = false := decide_eq_false (by omega)
            have d2 : (decide ((n : Int) ≥ 48) == true) = false := by rw [d1]; rfl
            refine cf d2 ?_
            refine cf d2 ?_
            refine cf d1 ?_
            have e6 : false = false := rfl
            refine ct (by first | rfl | (rw [e5]; rfl)) ?_
            refine ct (by first | rfl | (rw [e5]; rfl)) ?_
            refine ct (by first | rfl | (rw [e5]; rfl)) ?_
            refine ct (by first | rfl | (rw [e6]; rfl)) ?_
            refine ct (by first | rfl | (rw [e6]; rfl)) ?_
            refine ct (by first | rfl | (rw [e6]; rfl)) ?_
            by_cases h46 : n = 46
            · have e7 : ((n : Int) != 46) = false := by rw [h46]; rfl
              refine cf (by rw [e7]; rfl) ?_
              refine cf (by rw [e7]; rfl) ?_
              refine cf e7 ?_
              refine cf rfl ?_
              refine .as ((i + 1 : Nat) : Int) (by simp) (by simp only [mn]; omega) (by simp only [mx]; omega) ?_
              exact ⟨i + 1, ⟨by omega, hok (by unfold nameN; simp; omega)⟩, by omega, ⟨⟨rfl, rfl, trivial⟩, .nil, rfl⟩⟩
            · have e7 : ((n : Int) != 46) = true := bne_iff_ne.2 (by omega)
              refine ct (by rw [e7]; rfl) ?_
              refine ct (by rw [e7]; rfl) ?_
              refine ct e7 ?_
              by_cases h45 : n = 45
              · refine cf (by rw [h45]; rfl) ?_
                refine .as ((i + 1 : Nat) : Int) (by simp) (by simp only [mn]; omega) (by simp only [mx]; omega) ?_
                exact ⟨i + 1, ⟨by omega, hok (by unfold nameN; simp; omega)⟩, by omega, ⟨⟨rfl, rfl, trivial⟩, .nil, rfl⟩⟩
              · refine ct (bne_iff_ne.2 (by omega)) ?_
                exact rt (congrArg Value.bool (hno (by unfold nameN; simp; omega)).symm)
      · obtain rfl : i = l.length := by rw [hs] at h; omega
        rw [List.take_of_length_le (Nat.le_refl _)] at hall
        refine rt (congrArg Value.bool ?_)
        unfold namedL
        rw [hall, decide_eq_true (show 1 ≤ l.length by omega), decide_eq_true (show l.length ≤ 64 by omega)]; rfl
end Go.Proofs.Ytdgkaboaapfnmaa
