/- The law's fixed fact. -/
import Derived.Test.YtcojgckfcgbodaaDoorCdP
namespace Go.Proofs.YtcojgckfcgbodaaDoor
open Go.RowKit Go.Sx
set_option linter.unusedVariables false

theorem bsl (n : Nat) (parts : Array (Nat × Value)) (cells : Array Value) (w : World) (hn : n ≠ 0) (h1 : n ≤ 1000) (hf : Instr.fill (fun i => some (i * 1, 1)) ((Array.range (n * 1)).map ((Value.int .u8 0).cells[· % (Value.int .u8 0).cells.size]!)) parts.toList = some cells) :
    (Instr.buildSlice 22 n parts).run Tryd.prog w = .ok (.slice (some ⟨w.heap.size, 0, none⟩) n n) (w.alloc (.cells cells 5)) := by
  obtain ⟨i, hi, hz, hs, hb⟩ := infoOf info5
  exact run_buildSlice w _ _ n _ cells i (.int .u8 0) und22 hi hz (by rw [hs]; omega) (by rw [hs]; omega) (by rw [hs]; exact hf)
set_option maxRecDepth 100000 in
theorem alive_any (w : World) : Calls Tryd.prog 6 ([] : List Value).toArray w fun e w' => e = .returned (.bool true) ∧ Below w.heap.size w w' := by
  refine enterV tab_ok Tryd.func6 rfl Tryd.ntmps6 rfl (St.start w) ?_
  refine .mk _ _ (fun w => bsl 2 _ #[.int .u8 0, .int .u8 171] w (by decide) (by decide) (by kernel_rfl)) (fun b => ?_)
  refine cvs (fun w' hs => hex_any _ [0, 171] (by decide) w' (Rd.ent hs 0 rfl rfl rfl)) ?_
  have t1 : ((⟨(codeL hexS 4 [0, 171]).toArray⟩ : ByteArray).toList == (ByteArray.mk #[48, 48, 97, 98]).toList) = true := by kernel_rfl
  have t1' : (((⟨(codeL hexS 4 [0, 171]).toArray⟩ : ByteArray).toList == (ByteArray.mk #[48, 48, 97, 98]).toList) == true) = true := by rw [t1]; rfl
  refine ct t1' ?_
  refine .mk _ _ (fun w => bsl 1 _ #[.int .u8 97] w (by decide) (by decide) (by kernel_rfl)) (fun b2 => ?_)
  refine ct t1' ?_
  refine cvB 1 und22 (by kernel_rfl) rfl ?_
  refine ct t1' ?_
  refine cvs (fun w' hs => base64_any _ [97] (by decide) w' (Rd.ent hs 1 rfl rfl rfl)) ?_
  refine ct t1' ?_
  refine ct t1 ?_
  have t2 : ((⟨(filledL (codeL sixS 6 [97])).toArray⟩ : ByteArray).toList == (ByteArray.mk #[89, 81, 61, 61]).toList) = true := by kernel_rfl
  have t2' : (((⟨(filledL (codeL sixS 6 [97])).toArray⟩ : ByteArray).toList == (ByteArray.mk #[89, 81, 61, 61]).toList) == true) = true := by rw [t2]; rfl
  refine ct t2' ?_
  refine .mk _ _ (fun w => bsl 3 _ #[.int .u8 97, .int .u8 98, .int .u8 99] w (by decide) (by decide) (by kernel_rfl)) (fun b3 => ?_)
  refine ct t2' ?_
  refine cvB 2 und22 (by kernel_rfl) rfl ?_
  refine ct t2' ?_
  refine cvs (fun w' hs => base64_any _ [97, 98, 99] (by decide) w' (Rd.ent hs 2 rfl rfl rfl)) ?_
  refine ct t2' ?_
  refine ct t2 ?_
  exact rt (by have t3 : ((⟨(filledL (codeL sixS 6 [97, 98, 99])).toArray⟩ : ByteArray).toList == (ByteArray.mk #[89, 87, 74, 106]).toList) = true := by kernel_rfl
               exact congrArg Value.bool t3)
end Go.Proofs.YtcojgckfcgbodaaDoor
