/- Sectors as lists. -/
import Derived.Test.YtjkfkjbakokjeaaWord
namespace Go.Proofs.Ytjkfkjbakokjeaa
set_option linter.unusedVariables false
open Go.RowKit
structure Sec where
  data : ByteArray
  state : Int
def Sec.cells (e : Sec) : List Value := [.string e.data, .int .i64 e.state]
end Go.Proofs.Ytjkfkjbakokjeaa
