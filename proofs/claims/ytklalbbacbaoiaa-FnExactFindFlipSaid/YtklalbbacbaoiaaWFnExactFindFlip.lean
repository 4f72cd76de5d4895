/- The walk of FnExactFindFlip. Printed by gen_law.py. -/
import Derived.Test.YtklalbbacbaoiaaFindF
import Derived.Test.YtklalbbacbaoiaaOpen
namespace Go.Proofs.Ytklalbbacbaoiaa
set_option linter.unusedVariables false
open Go.RowKit

set_option maxHeartbeats 4000000 in
theorem walkFnExactFindFlip (s : ByteArray) (c : Int) (w : World) (m_s : s.size ≤ maxLen) :
    Calls Try.prog 5 #[.string s, .int .i64 c] w fun e w' => e = .returned (.bool true) ∧ Below w.heap.size w w' := by
  unfold maxLen at m_s
  by_cases q_s : s.size ≤ 1048576
  rotate_left
  · go_enter Try.func5, Try.ntmps5
    go_wp2_with (fail)
    go_ret
    exact ⟨rfl, (by repeat (first | exact Below.refl _ _ | refine Below.alloc ?_ (by first | omega | (simp; done) | (simp; omega)) _ | apply Below.drew | apply below_drewN | refine Below.setCell ?_ (by first | omega | (simp; done) | (simp; omega)) _ | refine Below.trans ?_ (Below.mono (by assumption) (by first | omega | (simp; done) | (simp; omega)))))⟩
  have q_s : s.size ≤ 1048576 := q_s
  go_enter Try.func5, Try.ntmps5
  go_wp2_with (fail)
  refine (ff_s s c _ q_s).mono ?_; rintro e w1 ⟨rfl, hb1⟩
  have hz1 := hb1.size
  have hB1 : Below w.heap.size w w1 := hb1
  try simp only [ffV]
  go_wp2_with (fail)
  refine (ff_i s c _ q_s).mono ?_; rintro e w2 ⟨rfl, hb2⟩
  have hz2 := hb2.size
  have hB2 : Below w.heap.size w w2 := hB1.trans (hb2.mono (by omega))
  try simp only [ffV]
  go_wp2_with (fail)
  go_ret
  exact ⟨rfl, hB2⟩
end Go.Proofs.Ytklalbbacbaoiaa
