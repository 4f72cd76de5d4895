/- Opening one disc that came in. -/
import Derived.Test.YtjkfkjbakokjeaaODisc
namespace Go.Proofs.Ytjkfkjbakokjeaa
set_option linter.unusedVariables false
open Go.ChangeShapes Go.WideShapes Go.ChangeAt Go.RowKit
set_option maxRecDepth 20000
section
variable {H : Type} {enc : TypeId × Value → H} {W : World} {base : Nat} {v : Value} {d : DataW H} {p : List MemPlace} {fuel : Nat} {sp : Nat → Bool} {hd : Bool} {b0 : Nat} {cs : List Value} {x : DataW H × List MemPlace}
theorem o_Disc (e : Value.okWide Try.prog W .any base 40 v) (h : DataW.Trod enc Try.prog W 0 sp hd 40 v d p) : ∃ (e : Dsc) (bv : Value), v = dscV e bv ∧ SecIn W bv e.secs := by
  obtain ⟨cs, rfl, hsz⟩ := okWide_struct Try.underlying40 e
  obtain ⟨fuel, hf⟩ := h
  obtain ⟨e, bv, hc, hs⟩ := c_Disc hf
  refine ⟨e, bv, ?_, hs⟩
  have : cs.toList = e.ints ++ [bv] := by simpa [Value.cells] using hc
  obtain ⟨l⟩ := cs
  simp at this
  subst this
  rfl
end
end Go.Proofs.Ytjkfkjbakokjeaa
