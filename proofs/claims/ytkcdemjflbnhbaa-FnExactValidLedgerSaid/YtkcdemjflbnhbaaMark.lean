/- markText: the walk. -/
import Derived.Test.YtkcdemjflbnhbaaWord
namespace Go.Proofs.Ytkcdemjflbnhbaa
open Go.RowKit
end Go.Proofs.Ytkcdemjflbnhbaa
