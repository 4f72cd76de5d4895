/- markText: the walk; it computes a function of its number. -/
import Derived.Test.YthchdbjgjnpooaaDoorWord
namespace Go.Proofs.YthchdbjgjnpooaaDoor
set_option linter.unusedVariables false
set_option linter.unusedSimpArgs false
open Go.RowKit
end Go.Proofs.YthchdbjgjnpooaaDoor
