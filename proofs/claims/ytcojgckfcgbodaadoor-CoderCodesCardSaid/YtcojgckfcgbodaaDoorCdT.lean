/- The reference's places of signs; bytes of hexadecimal figures. -/
import Derived.Test.YtcojgckfcgbodaaDoorCdS
namespace Go.Proofs.YtcojgckfcgbodaaDoor
open Go.RowKit Go.Sx
set_option linter.unusedVariables false

theorem get_sgn {sg : ByteArray} {j : Nat} (h : j < sg.size) : sg[j]! = sgn sg j := by
  have hj : j < sg.data.size := h
  rw [getElem!_pos sg j h]
  unfold sgn
  show sg.data[j] = _
  simp [Array.getD]
  intro h; omega
theorem idxO_hit {sg : ByteArray} {c : UInt8} {n : Nat} (hn : n < sg.size) (h : sgn sg n = c) (hb : ∀ m, m < n → sgn sg m ≠ c) : idxO sg c = some n := by
  unfold idxO
  rw [List.find?_range_eq_some]
  refine ⟨by rw [get_sgn hn]; simpa using h, List.mem_range.2 hn, fun m hm => ?_⟩
  rw [get_sgn (by omega)]
  simpa using hb m hm
theorem idxO_none {sg : ByteArray} {c : UInt8} (h : ∀ m, m < sg.size → sgn sg m ≠ c) : idxO sg c = none := by
  unfold idxO
  rw [List.find?_eq_none]
  intro m hm
  have hm := List.mem_range.1 hm
  rw [get_sgn hm]
  simpa using h m hm
set_option maxRecDepth 100000 in
theorem place6 (c : UInt8) (w : World) : Calls Tryd.prog 31 ([.int .u8 c.toNat, .int .i64 6] : List Value).toArray w fun e w' => e = .returned (.int .i64 (firstIdx sixS c)) ∧ Below w.heap.size w w' := by
  refine enterV tab_ok Tryd.func31 rfl Tryd.ntmps31 rfl (St.start w) ?_
  refine lp tab_ok (fun n : Nat => n ≤ 64 ∧ ∀ m, m < n → sgn sixS m ≠ c) (fun n => ⟨[(0, .int .u8 c.toNat), (1, .int .i64 6), (5, .int .i64 n)], [], []⟩) (fun n => 64 - n) 0 ⟨by decide, fun m hm => by cases hm⟩ ⟨⟨rfl, rfl, rfl, trivial⟩, .nil, rfl⟩ ?_
  rintro n ⟨hn, hb⟩
  refine cd (fun h => ?_) (fun h => ?_)
  · have hlt : n < 64 := by omega
    refine ct rfl ?_
    refine ct rfl ?_
    refine cv (six_any n hlt) ?_
    refine ct rfl ?_
    refine ct rfl ?_
    refine ct rfl ?_
    have hu := u8_eq (sgn sixS n) c
    by_cases hc : sgn sixS n = c
    · have e1 : (((sgn sixS n).toNat : Int) == (c.toNat : Int)) = true := by rw [hu]; simpa using hc
      have e2 : ((((sgn sixS n).toNat : Int) == (c.toNat : Int)) == false) = false := by rw [e1]; rfl
      iterate 6 refine cf e2 ?_
      refine ct e1 ?_
      refine ct rfl ?_
      exact rt (by rw [firstIdx_eq, idxO_hit (sg := sixS) (c := c) (n := n) hlt hc hb]; rfl)
    · have e1 : (((sgn sixS n).toNat : Int) == (c.toNat : Int)) = false := by rw [hu]; simpa using hc
      have e2 : ((((sgn sixS n).toNat : Int) == (c.toNat : Int)) == false) = true := by rw [e1]; rfl
      iterate 3 refine ct e2 ?_
      iterate 2 refine cf rfl ?_
      refine ct e2 ?_
      refine cf rfl ?_
      refine ct e2 ?_
      iterate 4 refine cf rfl ?_
      refine ct e2 ?_
      refine cf rfl ?_
      refine cf e1 ?_
      refine cf rfl ?_
      refine .as ((n + 1 : Nat) : Int) (by simp) (by simp only [mn]; omega) (by simp only [mx]; omega) ?_
      exact ⟨n + 1, ⟨by omega, fun m hm => by rcases Nat.lt_succ_iff_lt_or_eq.1 hm with h | rfl; exact hb m h; exact hc⟩, by omega, ⟨⟨rfl, rfl, rfl, trivial⟩, .nil, rfl⟩⟩
  · obtain rfl : n = 64 := by omega
    exact rt (by rw [firstIdx_eq, idxO_none (sg := sixS) (c := c) hb]; rfl)
set_option maxRecDepth 100000 in
theorem place4 (c : UInt8) (w : World) : Calls Tryd.prog 31 ([.int .u8 c.toNat, .int .i64 4] : List Value).toArray w fun e w' => e = .returned (.int .i64 (firstIdx hexS c)) ∧ Below w.heap.size w w' := by
  refine enterV tab_ok Tryd.func31 rfl Tryd.ntmps31 rfl (St.start w) ?_
  refine lp tab_ok (fun n : Nat => n ≤ 64 ∧ ∀ m, m < n → m < 16 → sgn hexS m ≠ c) (fun n => ⟨[(0, .int .u8 c.toNat), (1, .int .i64 4), (5, .int .i64 n)], [], []⟩) (fun n => 64 - n) 0 ⟨by decide, fun m hm => by cases hm⟩ ⟨⟨rfl, rfl, rfl, trivial⟩, .nil, rfl⟩ ?_
  rintro n ⟨hn, hb⟩
  refine cd (fun h => ?_) (fun h => ?_)
  · have hlt : n < 64 := by omega
    iterate 4 refine cf rfl ?_
    refine cf rfl ?_
    iterate 3 refine ct rfl ?_
    refine ct rfl ?_
    refine ct rfl ?_
    refine ct rfl ?_
    refine ct rfl ?_
    refine ct rfl ?_
    by_cases h16 : (n : Int) < 16
    · have f1 := decide_eq_true h16
      have f2 : (decide ((n : Int) < 16) == true) = true := by rw [f1]; rfl
      refine ct f2 ?_
      refine ct f2 ?_
      refine chP n rfl (by show n < 16; omega) ?_
      refine ct f2 ?_
      refine ct f2 ?_
      refine ct rfl ?_
      refine ct f1 ?_
      refine cf rfl ?_
      have hu := u8_eq (sgn hexS n) c
      by_cases hc : sgn hexS n = c
      · refine ct (hu.trans (by simpa using hc)) ?_
        exact rt (by rw [firstIdx_eq, idxO_hit (sg := hexS) (c := c) (n := n) (show n < 16 by omega) hc (fun m hm => hb m hm (by omega))]; rfl)
      · refine cf (hu.trans (by simpa using hc)) ?_
        refine .as ((n + 1 : Nat) : Int) (by simp) (by simp only [mn]; omega) (by simp only [mx]; omega) ?_
        exact ⟨n + 1, ⟨by omega, fun m hm hm2 => by rcases Nat.lt_succ_iff_lt_or_eq.1 hm with h | rfl; exact hb m h hm2; exact hc⟩, by omega, ⟨⟨rfl, rfl, rfl, trivial⟩, .nil, rfl⟩⟩
    · have f1 := decide_eq_false h16
      have f2 : (decide ((n : Int) < 16) == true) = false := by rw [f1]; rfl
      iterate 4 refine cf f2 ?_
      refine ct rfl ?_
      refine cf f1 ?_
      refine cf rfl ?_
      refine cf rfl ?_
      refine .as ((n + 1 : Nat) : Int) (by simp) (by simp only [mn]; omega) (by simp only [mx]; omega) ?_
      exact ⟨n + 1, ⟨by omega, fun m hm hm2 => by rcases Nat.lt_succ_iff_lt_or_eq.1 hm with h | rfl; exact hb m h hm2; omega⟩, by omega, ⟨⟨rfl, rfl, rfl, trivial⟩, .nil, rfl⟩⟩
  · obtain rfl : n = 64 := by omega
    exact rt (by rw [firstIdx_eq, idxO_none (sg := hexS) (c := c) (fun m hm => hb m (by have : m < 16 := hm; omega) hm)]; rfl)
end Go.Proofs.YtcojgckfcgbodaaDoor
