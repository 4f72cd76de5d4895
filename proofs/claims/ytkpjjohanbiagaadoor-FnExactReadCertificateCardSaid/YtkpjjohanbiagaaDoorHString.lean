/- The helpers of the laws over slices of string: sizes, copies, comparison, marks. Printed by gen_flat.py. -/
import Derived.Test.YtkpjjohanbiagaaDoorOwn
import Derived.Test.YtkpjjohanbiagaaDoorMark
namespace Go.Proofs.YtkpjjohanbiagaaDoor
set_option linter.unusedVariables false
set_option linter.unusedSimpArgs false
open Go.RowKit

def scell (e : ByteArray) : List Value := [.string e]
theorem scell_len (e : ByteArray) : (scell e).length = 1 := rfl
abbrev StringL (B : Nat) (w : World) (v : Value) (l : List ByteArray) : Prop := OwnL scell 1 9 B w v l
theorem scell_info : (Tryd.prog.info? 9).map (fun i => (i.zero, i.size, i.bytes)) = some (some (.string .empty), 1, 16) := by kernel_rfl
theorem StringL.at_ {B g c k n : Nat} {w : World} {l : List ByteArray} {e : ByteArray} (h : StringL B w (.slice (some ⟨g, 0, none⟩) n c) l) (hn : l.length = n) (he : l[k]? = some e) : w.cell? ⟨g, k, none⟩ = some (.string e) := by
  subst hn
  have := OwnL.cell scell_len h he (j := 0) rfl
  simpa using this
/- []string in memory -/
end Go.Proofs.YtkpjjohanbiagaaDoor
