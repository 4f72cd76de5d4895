/- ReadLedger: both functions' contracts by one reading. -/
import Derived.Test.YtkpjjohanbiagaaDoorRdlI
import Derived.Test.YtkpjjohanbiagaaDoorRdlS
import Derived.Test.YtkpjjohanbiagaaDoorHEntry
namespace Go.Proofs.YtkpjjohanbiagaaDoor
set_option linter.unusedVariables false
set_option linter.unusedSimpArgs false
open Go.RowKit
abbrev RdL (w : World) (s : ByteArray) (e : Ending) (w' : World) : Prop := ∃ v, e = .returned (.tuple #[v, .bool (rdS s.data.toList).2]) ∧ REntryS.own w.heap.size w'.heap.size w' v (rdS s.data.toList).1 ∧ Below w.heap.size w w'
theorem rdS_len (s : List UInt8) : (rdS s).1.length ≤ 31 := by
  unfold rdS
  split
  · rename_i h
    split
    · rename_i l hl
      have := (entsW_len hl).1
      split
      · show l.length ≤ 31
        rw [this, List.length_dropLast]; omega
      · simp
    · simp
  · simp
theorem read_i (s : ByteArray) (w : World) (hs : s.size ≤ 1048576) (env : EnvR w) : Calls Tryd.prog 12 #[.string s] w (RdL w s) := by
  refine (rdl_i s w hs env).mono ?_
  rintro e w' ⟨v, rfl, ho, hb⟩
  rw [rd_same] at *
  exact ⟨v, rfl, ⟨ho, fun g hg => (ho.lt g hg).2⟩, hb⟩
theorem read_s (s : ByteArray) (w : World) (hs : s.size ≤ 1048576) : Calls Tryd.prog 11 #[.string s] w (RdL w s) := by
  refine (rdl_s s w hs).mono ?_
  rintro e w' ⟨v, rfl, ho, hb⟩
  exact ⟨v, rfl, ⟨ho, fun g hg => (ho.lt g hg).2⟩, hb⟩
end Go.Proofs.YtkpjjohanbiagaaDoor
