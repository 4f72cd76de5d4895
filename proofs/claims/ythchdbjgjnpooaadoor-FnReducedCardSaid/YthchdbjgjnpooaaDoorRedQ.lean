/- What the solving of rows hands back. -/
import Derived.Test.YthchdbjgjnpooaaDoorRedP
namespace Go.Proofs.YthchdbjgjnpooaaDoor
set_option linter.unusedVariables false
set_option linter.unusedSimpArgs false
open Go.RowKit
def redQ (e : TypeId) (κ : IntKind) (w : World) (X : Option (List Rw)) (r : Ending) (w' : World) : Prop := ∃ v', r = .returned (.tuple #[v', .bool X.isSome]) ∧ RowL κ e w.heap.size w' v' (X.getD []) ∧ Below w.heap.size w w'
end Go.Proofs.YthchdbjgjnpooaaDoor
