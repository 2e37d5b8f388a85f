/- What the frames of the tied rows share: a string that came in. -/
import Derived.Test.YtpegkoklmhccjaaDoorFrc
import Derived.Test.YtpegkoklmhccjaaDoorTie
import Derived.Test.YtpegkoklmhccjaaDoorCards
import Derived.LaidMore
import Derived.Lay
import Derived.SevenTiedAt
import Derived.Stop.Joined
namespace Go.Proofs.YtpegkoklmhccjaaDoor
open Go.ChangeShapes Go.WideShapes Go.ChangeAt Go.RowKit Go.Sx

set_option maxRecDepth 100000 in
theorem open_str {w : World} {r : Reach} {b0 : Nat} {v : Value} (hv : Value.okWide Tryd.prog w r b0 9 v) : ∃ s : List UInt8, v = .string ⟨s.toArray⟩ ∧ s.length ≤ maxLen := by
  obtain ⟨s, rfl⟩ := okWide_string Tryd.underlying9 hv
  refine ⟨s.data.toList, by simp, ?_⟩
  simp only [Value.okWide, Tryd.underlying9, Cell.okWide, Cell.ok] at hv
  have : s.size ≤ maxLen := by simp at hv; unfold maxLen; omega
  exact this
end Go.Proofs.YtpegkoklmhccjaaDoor
