/- Sources of a certificate as lists. -/
import Derived.Test.YtkpjjohanbiagaaDoorWord
namespace Go.Proofs.YtkpjjohanbiagaaDoor
set_option linter.unusedVariables false
set_option linter.unusedSimpArgs false
open Go.RowKit
structure Src where
  kind : Int
  sector : Int
  dump : Int
def Src.cells (e : Src) : List Value := [.int .i64 e.kind, .int .i64 e.sector, .int .i64 e.dump]
end Go.Proofs.YtkpjjohanbiagaaDoor
