/- The tables of this program for the symbolic steps. -/
import Derived.Test.YtcojgckfcgbodaaProg
import Derived.Test.YtcojgckfcgbodaaSxF
import Derived.KernelRfl
namespace Go.Proofs.Ytcojgckfcgbodaa
def tab : Sx.Tab where
  rows := [⟨1, .fn, 1⟩, ⟨2, .int .i64, 1⟩, ⟨3, .int .i64, 1⟩, ⟨4, .bool, 1⟩, ⟨5, .int .u8, 1⟩, ⟨6, .int .u8, 1⟩, ⟨7, .st [(0, 1, false), (1, 1, false), (2, 1, false), (3, 1, false)], 4⟩, ⟨8, .st [(0, 1, false), (1, 1, false), (2, 1, false), (3, 1, false)], 4⟩, ⟨9, .str, 1⟩, ⟨10, .str, 1⟩, ⟨11, .str, 1⟩, ⟨12, .int .u64, 1⟩, ⟨13, .st [(0, 1, false), (1, 1, false)], 2⟩, ⟨14, .st [(0, 1, false), (1, 1, false)], 2⟩, ⟨15, .ptr, 1⟩, ⟨16, .ptr, 1⟩, ⟨17, .ptr, 1⟩, ⟨18, .st [(0, 1, false)], 1⟩, ⟨19, .st [(0, 1, false)], 1⟩, ⟨20, .ifc, 1⟩, ⟨21, .int .i32, 1⟩, ⟨22, .sl 5 1, 1⟩, ⟨23, .fn, 1⟩, ⟨24, .fn, 1⟩, ⟨25, .fn, 1⟩, ⟨26, .st [(0, 1, false), (1, 1, false)], 2⟩, ⟨27, .st [(0, 1, false), (1, 1, false)], 2⟩, ⟨28, .fn, 1⟩, ⟨29, .fn, 1⟩, ⟨30, .ptr, 1⟩, ⟨31, .st [(0, 1, false), (1, 1, false)], 2⟩, ⟨32, .st [(0, 1, false), (1, 1, false)], 2⟩, ⟨33, .int .u64, 1⟩, ⟨34, .ifc, 1⟩, ⟨35, .ifc, 1⟩, ⟨36, .fn, 1⟩, ⟨37, .fn, 1⟩, ⟨38, .fn, 1⟩, ⟨39, .ptr, 1⟩, ⟨41, .fn, 1⟩, ⟨42, .fn, 1⟩, ⟨43, .fn, 1⟩, ⟨45, .fn, 1⟩, ⟨46, .fn, 1⟩, ⟨47, .up, 1⟩, ⟨48, .fn, 1⟩, ⟨49, .int .u32, 1⟩, ⟨51, .fn, 1⟩, ⟨52, .int .u64, 1⟩, ⟨54, .fn, 1⟩, ⟨55, .fn, 1⟩, ⟨56, .st [(0, 1, false), (1, 1, false), (2, 1, false), (3, 1, false)], 4⟩, ⟨57, .st [(0, 1, false), (1, 1, false), (2, 1, false), (3, 1, false)], 4⟩, ⟨58, .arr 0 16 1 false, 0⟩, ⟨61, .int .u8, 1⟩, ⟨62, .int .u8, 1⟩, ⟨63, .fn, 1⟩, ⟨64, .int .i32, 1⟩, ⟨65, .int .i32, 1⟩, ⟨66, .st [(0, 1, false), (1, 1, false), (2, 1, false), (3, 1, false), (4, 1, false), (5, 1, false), (6, 1, false), (7, 1, false), (8, 1, false), (9, 1, false), (10, 1, false)], 11⟩, ⟨67, .st [(0, 1, false), (1, 1, false), (2, 1, false), (3, 1, false), (4, 1, false), (5, 1, false), (6, 1, false), (7, 1, false), (8, 1, false), (9, 1, false), (10, 1, false)], 11⟩]
  zero := [(27, #[.string { data := #[] }, .int .i64 0]), (32, #[.pointer none, .slice none 0 0])]
  fns := 43
  ext := [0, 1, 20, 25, 26, 27, 28, 29, 30, 31, 32, 33, 34, 35, 36, 37, 38, 39, 40, 41, 42]
theorem tab_ok : Sx.TabOk Try.prog tab := ⟨by kernel_rfl, by kernel_rfl, ⟨by kernel_rfl, by kernel_rfl, trivial⟩⟩
theorem mixed_ok : Try.prog.follows .mixedOrders = true := by kernel_rfl
end Go.Proofs.Ytcojgckfcgbodaa
