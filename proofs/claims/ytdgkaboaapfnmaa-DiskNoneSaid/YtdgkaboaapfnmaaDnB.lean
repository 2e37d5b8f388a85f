/- The law DiskNone: the walk. -/
import Derived.Test.YtdgkaboaapfnmaaDnA
namespace Go.Proofs.Ytdgkaboaapfnmaa
open Go.RowKit Go.Sx
set_option linter.unusedVariables false

theorem infoE : (Try.prog.info? 27).map (fun i => (i.zero, i.size, i.bytes)) = some (some .nilIface, 1, 16) := by kernel_rfl
theorem undEs : Try.prog.underlying 58 = some (.slice 27) := by kernel_rfl
theorem bsE7 (w : World) : (Instr.buildSlice 58 7 #[(0, ErrN 4), (1, ErrN 4), (2, ErrN 4), (3, ErrN 4), (4, ErrN 4), (5, ErrN 4), (6, ErrN 4)]).run Try.prog w = .ok (.slice (some ⟨w.heap.size, 0, none⟩) 7 7) (w.alloc (.cells #[ErrN 4, ErrN 4, ErrN 4, ErrN 4, ErrN 4, ErrN 4, ErrN 4] 27)) := by
  obtain ⟨i, hi, hz, hs, hb⟩ := infoOf infoE
  exact run_buildSlice w _ _ 7 _ #[ErrN 4, ErrN 4, ErrN 4, ErrN 4, ErrN 4, ErrN 4, ErrN 4] i .nilIface undEs hi hz (by rw [hs]; decide) (by rw [hs]; decide) (by rw [hs]; kernel_rfl)
theorem e7_at (i : Nat) (h : i < 7) : (#[ErrN 4, ErrN 4, ErrN 4, ErrN 4, ErrN 4, ErrN 4, ErrN 4] : Array Value)[i]? = some (ErrN 4) := by
  rcases i with _ | _ | _ | _ | _ | _ | _ | i <;> first | rfl | omega
set_option maxRecDepth 100000 in
set_option maxHeartbeats 4000000 in
theorem law_none (n : List UInt8) (a : Option Addr) (l c : Nat) (k : Int) (w : World) : Calls Try.prog 7 ([VS n, .slice a l c, .int .i64 k] : List Value).toArray w fun e w' => e = .returned (.bool true) ∧ Below w.heap.size w w' := by
  refine enterV tab_ok Try.func7 rfl Try.ntmps7 rfl (St.start w) ?_
  refine cv alive_any ?_
  refine cf rfl ?_
  refine cv (nil_crash k) ?_
  refine cv (nil_read n) ?_
  refine cv (nil_append n a l c) ?_
  refine cv (nil_sync n) ?_
  refine cv (nil_cut n k) ?_
  refine cv (nil_rename n n) ?_
  refine cv (nil_drop n) ?_
  refine cv (nil_arm k) ?_
  refine .mk _ _ bsE7 (fun b => ?_)
  refine lp tab_ok (fun i : Nat => i ≤ 7) (fun i => ⟨[(0, VS n), (7, .pointer none), (45, .slice (some ⟨b, 0, none⟩) 7 7), (46, .int .i64 7), (47, .int .i64 i)], [cl b #[ErrN 4, ErrN 4, ErrN 4, ErrN 4, ErrN 4, ErrN 4, ErrN 4] 27], []⟩) (fun i => 7 - i) 0 (Nat.zero_le _) ⟨⟨rfl, rfl, rfl, rfl, rfl, trivial⟩, .cons .nil, rfl⟩ ?_
  intro i hi
  refine cd (fun h => ?_) (fun h => ?_)
  · have hil : i < 7 := by omega
    refine ⟨by omega, by omega, ?_⟩
    refine ld1 0 rfl (v := ErrN 4) (by rw [nad_eq, nmu_eq, Int.toNat_natCast, Nat.zero_add, Nat.mul_one]; exact e7_at i hil) ?_
    refine cv (is_any 4 4) ?_
    refine cf rfl ?_
    refine .as ((i + 1 : Nat) : Int) (by simp) (by simp only [mn]; omega) (by simp only [mx]; omega) ?_
    exact ⟨i + 1, by omega, by omega, ⟨⟨rfl, rfl, rfl, rfl, rfl, trivial⟩, .cons .nil, rfl⟩⟩
  · refine cv nil_names ?_
    iterate 3 refine ct rfl ?_
    refine cv (nil_sure n) ?_
    iterate 2 refine ct rfl ?_
    iterate 2 refine ct rfl ?_
    refine cv nil_used ?_
    iterate 2 refine ct rfl ?_
    iterate 2 refine ct rfl ?_
    refine cv nil_free ?_
    iterate 2 refine ct rfl ?_
    iterate 2 refine ct rfl ?_
    refine cv nil_steps ?_
    iterate 2 refine ct rfl ?_
    iterate 2 refine ct rfl ?_
    refine cv nil_down ?_
    refine ct rfl ?_
    iterate 2 refine ct rfl ?_
    refine cv nil_copy ?_
    iterate 2 refine ct rfl ?_
    exact rt rfl
end Go.Proofs.Ytdgkaboaapfnmaa
