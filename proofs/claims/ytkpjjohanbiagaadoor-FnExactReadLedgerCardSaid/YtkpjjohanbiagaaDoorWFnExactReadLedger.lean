/- The walk of FnExactReadLedger. Printed by gen_law.py. -/
import Derived.Test.YtkpjjohanbiagaaDoorRdlJ
namespace Go.Proofs.YtkpjjohanbiagaaDoor
set_option linter.unusedVariables false
set_option linter.unusedSimpArgs false
open Go.RowKit

set_option maxRecDepth 20000 in
set_option maxHeartbeats 4000000 in
theorem walkFnExactReadLedger (s : ByteArray) (w : World) (m_s : s.size ≤ maxLen) (env : EnvR w) :
    Calls Tryd.prog 4 #[.string s] w fun e w' => e = .returned (.bool true) ∧ Below w.heap.size w w' := by
  unfold maxLen at m_s
  by_cases q_s : s.size ≤ 1048576
  rotate_left
  · go_enter Tryd.func4, Tryd.ntmps4
    go_wp2_with (fail)
    go_ret
    exact ⟨rfl, (by repeat (first | exact Below.refl _ _ | refine Below.alloc ?_ (by first | omega | (simp; done) | (simp; omega)) _ | apply Below.drew | apply below_drewN | refine Below.setCell ?_ (by first | omega | (simp; done) | (simp; omega)) _ | refine Below.trans ?_ (Below.mono (by assumption) (by first | omega | (simp; done) | (simp; omega)))))⟩
  have cnt_res : REntryS.cnt (rdS s.data.toList).1 ≤ 8388608 := by show (rdS s.data.toList).1.length * 4 ≤ _; have := rdS_len s.data.toList; omega
  go_enter Tryd.func4, Tryd.ntmps4
  go_wp2_with (fail)
  refine (read_s s _ q_s).mono ?_; rintro e w1 ⟨v1, rfl, o1, hb1⟩
  have hz1 := hb1.size
  have hB1 : Below w.heap.size w w1 := hb1
  go_wp2_with (fail)
  refine (read_i s _ q_s (env.below (hB1))).mono ?_; rintro e w2 ⟨v2, rfl, o2, hb2⟩
  have hz2 := hb2.size
  have hB2 : Below w.heap.size w w2 := hB1.trans (hb2.mono (by omega))
  have o_w0_2 := Rep.keep (R := REntryS) o1 hb2
  go_wp2_with (fail)
  refine (r_eqEntryS ((rdS s.data.toList).1) _ _ _ _ _ _ _ o2 o_w0_2 cnt_res).mono ?_; rintro e w3 ⟨rfl, hb3⟩
  have hz3 := hb3.size
  have hB3 : Below w.heap.size w w3 := hB2.trans (hb3.mono (by omega))
  have o_w0_3 := Rep.keep (R := REntryS) o_w0_2 hb3
  have o_g0_3 := Rep.keep (R := REntryS) o2 hb3
  go_wp2_with (fail)
  refine (r_markEntryS ((rdS s.data.toList).1) _ (1) _ _ _ o_g0_3 cnt_res (by omega) (by omega)).mono ?_; rintro e w4 ⟨rfl, o4, hc4⟩
  have hz4 := hc4.size
  have hB4 : Below w.heap.size w w4 := Chg.below hB3 hc4 (by omega) (Nat.le_refl _)
  have o_w0_4 := REntryS.chg o_w0_3 hc4 (by omega)
  go_wp2_with (fail)
  refine (r_heldEntryS ((rdS s.data.toList).1) _ (1) _ _ _ o4 cnt_res (by omega) (by omega)).mono ?_; rintro e w5 ⟨rfl, hb5⟩
  have hz5 := hb5.size
  have hB5 : Below w.heap.size w w5 := hB4.trans (hb5.mono (by omega))
  have o_w0_5 := Rep.keep (R := REntryS) o_w0_4 hb5
  have o_g0_5 := Rep.keep (R := REntryS) o4 hb5
  go_wp2_with (fail)
  refine (read_i s _ q_s (env.below (hB5))).mono ?_; rintro e w6 ⟨v6, rfl, o6, hb6⟩
  have hz6 := hb6.size
  have hB6 : Below w.heap.size w w6 := hB5.trans (hb6.mono (by omega))
  have o_w0_6 := Rep.keep (R := REntryS) o_w0_5 hb6
  have o_g0_6 := Rep.keep (R := REntryS) o_g0_5 hb6
  go_wp2_with (fail)
  refine (r_eqEntryS ((rdS s.data.toList).1) _ _ _ _ _ _ _ o6 o_w0_6 cnt_res).mono ?_; rintro e w7 ⟨rfl, hb7⟩
  have hz7 := hb7.size
  have hB7 : Below w.heap.size w w7 := hB6.trans (hb7.mono (by omega))
  have o_w0_7 := Rep.keep (R := REntryS) o_w0_6 hb7
  have o_g0_7 := Rep.keep (R := REntryS) o_g0_6 hb7
  have o_h0_7 := Rep.keep (R := REntryS) o6 hb7
  go_wp2_with (fail)
  refine (r_heldEntryS ((rdS s.data.toList).1) _ (1) _ _ _ o_g0_7 cnt_res (by omega) (by omega)).mono ?_; rintro e w8 ⟨rfl, hb8⟩
  have hz8 := hb8.size
  have hB8 : Below w.heap.size w w8 := hB7.trans (hb8.mono (by omega))
  have o_w0_8 := Rep.keep (R := REntryS) o_w0_7 hb8
  have o_g0_8 := Rep.keep (R := REntryS) o_g0_7 hb8
  have o_h0_8 := Rep.keep (R := REntryS) o_h0_7 hb8
  go_wp2_with (fail)
  go_ret
  exact ⟨rfl, hB8⟩
end Go.Proofs.YtkpjjohanbiagaaDoor
