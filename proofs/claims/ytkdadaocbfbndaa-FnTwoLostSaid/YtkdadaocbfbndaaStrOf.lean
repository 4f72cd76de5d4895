/- A slice of strings of the call's own reads as its strings. -/
import Derived.Test.YtkdadaocbfbndaaHString
import Derived.Test.YtkdadaocbfbndaaGroup
namespace Go.Proofs.Ytkdadaocbfbndaa
set_option linter.unusedVariables false
open Go.RowKit
theorem strL_own {B : Nat} {w : World} {v : Value} {l : List ByteArray} (h : StringL B w v l) : StrL w v l := by
  obtain ⟨A, c, rfl, hA⟩ := h.shape
  refine ⟨A, c, rfl, ?_⟩
  rcases hA with hA | ⟨g, rfl, _, hg⟩
  · exact .inl hA
  · exact .inr ⟨g, rfl, hg, fun k s hk => h.at_ rfl hk⟩
end Go.Proofs.Ytkdadaocbfbndaa
