/- The walk of FnExactCrcEffect. Printed by gen_law.py. -/
import Derived.Test.YtklalbbacbaoiaaEff
import Derived.Test.YtklalbbacbaoiaaOpen
namespace Go.Proofs.Ytklalbbacbaoiaa
set_option linter.unusedVariables false
open Go.RowKit

set_option maxHeartbeats 4000000 in
theorem walkFnExactCrcEffect (n : Int) (b : Int) (w : World)  (m_n : (Lit.int .i64 n).wf = true) (m_b : (Lit.int .i64 b).wf = true) :
    Calls Try.prog 4 #[.int .i64 n, .int .i64 b] w fun e w' => e = .returned (.bool true) ∧ Below w.heap.size w w' := by
  go_enter Try.func4, Try.ntmps4
  go_wp2_with (fail)
  refine (effR_s n b _ (wf_i64 m_n) (wf_i64 m_b)).mono ?_; rintro e w1 ⟨rfl, hb1⟩
  have hz1 := hb1.size
  have hB1 : Below w.heap.size w w1 := hb1
  go_wp2_with (fail)
  refine (effR_i n b _ (wf_i64 m_n) (wf_i64 m_b)).mono ?_; rintro e w2 ⟨rfl, hb2⟩
  have hz2 := hb2.size
  have hB2 : Below w.heap.size w w2 := hB1.trans (hb2.mono (by omega))
  go_wp2_with (fail)
  go_ret
  exact ⟨rfl, hB2⟩
end Go.Proofs.Ytklalbbacbaoiaa
