/- markText: the walk; it computes a function of its number. -/
import Derived.Test.YtiignbomjjfckaaDoorWord
namespace Go.Proofs.YtiignbomjjfckaaDoor
set_option linter.unusedVariables false
set_option linter.unusedSimpArgs false
open Go.RowKit
end Go.Proofs.YtiignbomjjfckaaDoor
