/- The helpers of the laws over slices of int64: sizes, copies, comparison, marks. Printed by gen_flat.py. -/
import Derived.Test.YtkpjjohanbiagaaDoorOwn
import Derived.Test.YtkpjjohanbiagaaDoorMark
namespace Go.Proofs.YtkpjjohanbiagaaDoor
set_option linter.unusedVariables false
set_option linter.unusedSimpArgs false
open Go.RowKit

def icell (e : Int) : List Value := [.int .i64 e]
theorem icell_len (e : Int) : (icell e).length = 1 := rfl
abbrev Int64L (B : Nat) (w : World) (v : Value) (l : List Int) : Prop := OwnL icell 1 2 B w v l
theorem icell_info : (Tryd.prog.info? 2).map (fun i => (i.zero, i.size, i.bytes)) = some (some (.int .i64 0), 1, 8) := by kernel_rfl
theorem Int64L.at_ {B g c k n : Nat} {w : World} {l : List Int} {e : Int} (h : Int64L B w (.slice (some ⟨g, 0, none⟩) n c) l) (hn : l.length = n) (he : l[k]? = some e) : w.cell? ⟨g, k, none⟩ = some (.int .i64 e) := by
  subst hn
  have := OwnL.cell icell_len h he (j := 0) rfl
  simpa using this
/- []int64 in memory -/
end Go.Proofs.YtkpjjohanbiagaaDoor
