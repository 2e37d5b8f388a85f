/- A nil disk: what its functions answer. -/
import Derived.Test.YtdgkaboaapfnmaaDlA
namespace Go.Proofs.Ytdgkaboaapfnmaa
open Go.RowKit Go.Sx
set_option linter.unusedVariables false

set_option maxRecDepth 100000 in
theorem nil_down (w : World) : Calls Try.prog 13 ([.pointer none] : List Value).toArray w fun e w' => e = .returned (.bool true) ∧ Below w.heap.size w w' := by
  refine enterV tab_ok Try.func13 rfl Try.ntmps13 rfl (St.start w) ?_
  iterate 5 refine cf rfl ?_
  refine ct rfl ?_
  exact rt rfl
set_option maxRecDepth 100000 in
theorem nil_steps (w : World) : Calls Try.prog 16 ([.pointer none] : List Value).toArray w fun e w' => e = .returned (.int .i64 0) ∧ Below w.heap.size w w' := by
  refine enterV tab_ok Try.func16 rfl Try.ntmps16 rfl (St.start w) ?_
  refine ct rfl ?_
  exact rt rfl
set_option maxRecDepth 100000 in
theorem nil_free (w : World) : Calls Try.prog 30 ([.pointer none] : List Value).toArray w fun e w' => e = .returned (.int .i64 0) ∧ Below w.heap.size w w' := by
  refine enterV tab_ok Try.func30 rfl Try.ntmps30 rfl (St.start w) ?_
  refine ct rfl ?_
  exact rt rfl
set_option maxRecDepth 100000 in
theorem nil_copy (w : World) : Calls Try.prog 21 ([.pointer none] : List Value).toArray w fun e w' => e = .returned (.pointer none) ∧ Below w.heap.size w w' := by
  refine enterV tab_ok Try.func21 rfl Try.ntmps21 rfl (St.start w) ?_
  refine ct rfl ?_
  exact rt rfl
set_option maxRecDepth 100000 in
theorem nil_names (w : World) : Calls Try.prog 23 ([.pointer none] : List Value).toArray w fun e w' => e = .returned (.slice none 0 0) ∧ Below w.heap.size w w' := by
  refine enterV tab_ok Try.func23 rfl Try.ntmps23 rfl (St.start w) ?_
  refine ct rfl ?_
  exact rt rfl
set_option maxRecDepth 100000 in
theorem nil_crash (n : Int) (w : World) : Calls Try.prog 17 ([.pointer none, .int .i64 n] : List Value).toArray w fun e w' => e = .returned (.tuple #[]) ∧ Below w.heap.size w w' := by
  refine enterV tab_ok Try.func17 rfl Try.ntmps17 rfl (St.start w) ?_
  refine ct rfl ?_
  exact rt rfl
set_option maxRecDepth 100000 in
theorem nil_arm (n : Int) (w : World) : Calls Try.prog 12 ([.pointer none, .int .i64 n] : List Value).toArray w fun e w' => e = .returned (ErrN 4) ∧ Below w.heap.size w w' := by
  refine enterV tab_ok Try.func12 rfl Try.ntmps12 rfl (St.start w) ?_
  refine ct rfl ?_
  exact rt rfl
set_option maxRecDepth 100000 in
theorem nil_used (w : World) : Calls Try.prog 14 ([.pointer none] : List Value).toArray w fun e w' => e = .returned (.int .i64 0) ∧ Below w.heap.size w w' := by
  refine enterV tab_ok Try.func14 rfl Try.ntmps14 rfl (St.start w) ?_
  intro b3
  refine s1 0 rfl (show 0 < 1 by decide) ?_
  refine cf rfl ?_
  refine ld1 0 rfl (v := .int .i64 0) rfl ?_
  exact rt rfl
set_option maxRecDepth 100000 in
theorem nil_has (n : List UInt8) (w : World) : Calls Try.prog 52 ([.pointer none, VS n] : List Value).toArray w fun e w' => e = .returned (.tuple #[zF, ErrN 4]) ∧ Below w.heap.size w w' := by
  refine enterV tab_ok Try.func52 rfl Try.ntmps52 rfl (St.start w) ?_
  intro b4
  refine ct rfl ?_
  refine bu (c := #[.slice none 0 0, .int .i64 0]) (by kernel_rfl) ?_
  refine sN 0 rfl rfl rfl ?_ (by kernel_rfl)
  refine ldN 0 rfl rfl ?_
  exact rt rfl
set_option maxRecDepth 100000 in
theorem nil_sure (n : List UInt8) (w : World) : Calls Try.prog 25 ([.pointer none, VS n] : List Value).toArray w fun e w' => e = .returned (.int .i64 (-1)) ∧ Below w.heap.size w w' := by
  refine enterV tab_ok Try.func25 rfl Try.ntmps25 rfl (St.start w) ?_
  refine cv (nil_has n) ?_
  intro b5
  refine sN 0 rfl rfl rfl ?_ (by kernel_rfl)
  refine ct rfl ?_
  exact rt rfl
set_option maxRecDepth 100000 in
theorem nil_read (n : List UInt8) (w : World) : Calls Try.prog 24 ([.pointer none, VS n] : List Value).toArray w fun e w' => e = .returned (.tuple #[.slice none 0 0, ErrN 4]) ∧ Below w.heap.size w w' := by
  refine enterV tab_ok Try.func24 rfl Try.ntmps24 rfl (St.start w) ?_
  refine cv nil_down ?_
  refine ct rfl ?_
  exact rt rfl
set_option maxRecDepth 100000 in
theorem nil_append (n : List UInt8) (a : Option Addr) (l c : Nat) (w : World) : Calls Try.prog 18 ([.pointer none, VS n, .slice a l c] : List Value).toArray w fun e w' => e = .returned (ErrN 4) ∧ Below w.heap.size w w' := by
  refine enterV tab_ok Try.func18 rfl Try.ntmps18 rfl (St.start w) ?_
  intro b3 b4 b5
  refine ld1 0 rfl rfl ?_
  refine ct rfl ?_
  exact rt rfl
set_option maxRecDepth 100000 in
theorem nil_sync (n : List UInt8) (w : World) : Calls Try.prog 26 ([.pointer none, VS n] : List Value).toArray w fun e w' => e = .returned (ErrN 4) ∧ Below w.heap.size w w' := by
  refine enterV tab_ok Try.func26 rfl Try.ntmps26 rfl (St.start w) ?_
  intro b3 b4
  refine ld1 0 rfl rfl ?_
  refine ld1 1 rfl rfl ?_
  refine cv (nil_has n) ?_
  intro b5
  refine sN 2 rfl rfl rfl ?_ (by kernel_rfl)
  refine ct rfl ?_
  exact rt rfl
set_option maxRecDepth 100000 in
theorem nil_drop (n : List UInt8) (w : World) : Calls Try.prog 29 ([.pointer none, VS n] : List Value).toArray w fun e w' => e = .returned (ErrN 4) ∧ Below w.heap.size w w' := by
  refine enterV tab_ok Try.func29 rfl Try.ntmps29 rfl (St.start w) ?_
  intro b3 b4
  refine ld1 0 rfl rfl ?_
  refine ld1 1 rfl rfl ?_
  refine cv (nil_has n) ?_
  intro b5
  refine sN 2 rfl rfl rfl ?_ (by kernel_rfl)
  refine ct rfl ?_
  exact rt rfl
set_option maxRecDepth 100000 in
theorem nil_cut (n : List UInt8) (k : Int) (w : World) : Calls Try.prog 27 ([.pointer none, VS n, .int .i64 k] : List Value).toArray w fun e w' => e = .returned (ErrN 4) ∧ Below w.heap.size w w' := by
  refine enterV tab_ok Try.func27 rfl Try.ntmps27 rfl (St.start w) ?_
  intro b3 b4 b5
  refine ld1 0 rfl rfl ?_
  refine ld1 1 rfl rfl ?_
  refine cv (nil_has n) ?_
  intro b6
  refine sN 3 rfl rfl rfl ?_ (by kernel_rfl)
  refine ct rfl ?_
  exact rt rfl
set_option maxRecDepth 100000 in
theorem nil_rename (n m : List UInt8) (w : World) : Calls Try.prog 28 ([.pointer none, VS n, VS m] : List Value).toArray w fun e w' => e = .returned (ErrN 4) ∧ Below w.heap.size w w' := by
  refine enterV tab_ok Try.func28 rfl Try.ntmps28 rfl (St.start w) ?_
  intro b3 b4 b5
  refine ld1 0 rfl rfl ?_
  refine ld1 1 rfl rfl ?_
  refine cv (nil_has n) ?_
  intro b6
  refine sN 3 rfl rfl rfl ?_ (by kernel_rfl)
  refine ct rfl ?_
  exact rt rfl
end Go.Proofs.Ytdgkaboaapfnmaa
