/- Listed tables in later worlds; numbers in words, both sides' contracts ahead. -/
import Derived.Test.YtkpjjohanbiagaaDoorTxtP
import Derived.Lib.LaidTab
namespace Go.Proofs.YtkpjjohanbiagaaDoor
set_option linter.unusedVariables false
set_option linter.unusedSimpArgs false
open Go.RowKit
/-- the library's table of powers of ten holds what its text lays -/
def Pow (w : World) : Prop := Lib.TabIs Tryd.prog w "internal/strconv.uint64pow10" .u64 Lib.pow10Tab
theorem pow_g : ∃ g : Nat, Tryd.prog.globalNamed "internal/strconv.uint64pow10" = some g := ⟨4, by kernel_rfl⟩
theorem var_below {w w' : World} {n : String} {g : Nat} {cs : Array Value} (hg : Tryd.prog.globalNamed n = some g) (hlt : g < w.heap.size) (h : w.var? Tryd.prog n = some cs) (hb : Below w.heap.size w w') : w'.var? Tryd.prog n = some cs := by
  unfold World.var? at h ⊢
  simp only [hg, Option.bind_some] at h ⊢
  rw [hb.block g hlt]
  exact h
theorem Pow.below {w w' : World} (h : Pow w) (hb : Below w.heap.size w w') : Pow w' := by
  obtain ⟨g, hg⟩ : ∃ g : Nat, Tryd.prog.globalNamed "internal/strconv.uint64pow10" = some g := pow_g
  have hc : w.cell? ⟨g, 0, none⟩ = some (.int .u64 (Lib.pow10Tab.getD 0 0)) := Lib.TabIs.cell (W := w) h hg 0 (by decide)
  exact var_below hg (World.block_lt_of_cell? w _ hc) h hb
end Go.Proofs.YtkpjjohanbiagaaDoor
