/- Opening a slice of string that came in. -/
import Derived.Test.YtjkfkjbakokjeaaOpen
import Derived.Test.YtjkfkjbakokjeaaHString
namespace Go.Proofs.Ytjkfkjbakokjeaa
set_option linter.unusedVariables false
open Go.ChangeShapes Go.WideShapes Go.ChangeAt Go.RowKit
set_option maxRecDepth 20000

section
variable {H : Type} {enc : TypeId × Value → H} {W : World} {base : Nat} {v : Value} {d : DataW H} {p : List MemPlace} {fuel : Nat} {sp : Nat → Bool} {hd : Bool} {b0 : Nat} {cs : List Value} {x : DataW H × List MemPlace}
theorem c_String (h : DataW.trod enc Try.prog W b0 sp hd fuel 9 cs = some x) : ∃ e : ByteArray, cs = scell e ∧ e.size ≤ maxLen := by
  obtain ⟨s, e0, _, w0⟩ := DataW.trod_string Try.underlying9 h
  exact ⟨s, by simpa [scell] using e0, w0⟩
end
end Go.Proofs.Ytjkfkjbakokjeaa
