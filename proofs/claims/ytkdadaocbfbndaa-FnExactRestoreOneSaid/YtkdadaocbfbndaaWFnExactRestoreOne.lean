/- The walk of FnExactRestoreOne. Printed by gen_law.py. -/
import Derived.Test.YtkdadaocbfbndaaROneS
import Derived.Test.YtkdadaocbfbndaaHString
import Derived.Test.YtkdadaocbfbndaaStrOf
import Derived.Test.YtkdadaocbfbndaaOpen
namespace Go.Proofs.Ytkdadaocbfbndaa
set_option linter.unusedVariables false
open Go.RowKit

set_option maxHeartbeats 4000000 in
theorem walkFnExactRestoreOne (l : List ByteArray) (v_l : Value) (i : Int) (p : ByteArray) (w : World) (r_l : RStringS.raw w v_l l) (m_p : p.size ≤ maxLen) (m_i : (Lit.int .i64 i).wf = true) :
    Calls Try.prog 7 #[v_l, .int .i64 i, .string p] w fun e w' => e = .returned (.bool true) ∧ Below w.heap.size w w' := by
  unfold maxLen at m_p
  by_cases q_p : p.size ≤ 1048576
  rotate_left
  · go_enter Try.func7, Try.ntmps7
    go_wp2_with (fail)
    go_ret
    exact ⟨rfl, (by repeat (first | exact Below.refl _ _ | refine Below.alloc ?_ (by first | omega | (simp; done) | (simp; omega)) _ | apply Below.drew | apply below_drewN | refine Below.setCell ?_ (by first | omega | (simp; done) | (simp; omega)) _ | refine Below.trans ?_ (Below.mono (by assumption) (by first | omega | (simp; done) | (simp; omega)))))⟩
  by_cases q_l : ((RStringS.wt l : Nat) : Int) ≤ 1048576
  rotate_left
  · have H1 : szR (1048576) (RStringS.wt l) < 0 := szR_neg.2 q_l
    go_enter Try.func7, Try.ntmps7
    go_wp2_with (fail)
    refine (r_szStringS l v_l _ _ (RStringS.rawk r_l (by repeat (first | exact Below.refl _ _ | refine Below.alloc ?_ (by first | omega | (simp; done) | (simp; omega)) _ | apply Below.drew | apply below_drewN | refine Below.setCell ?_ (by first | omega | (simp; done) | (simp; omega)) _ | refine Below.trans ?_ (Below.mono (by assumption) (by first | omega | (simp; done) | (simp; omega)))))) (by omega)).mono ?_; rintro e w1 ⟨rfl, hb1⟩
    have hz1 := hb1.size
    go_wp2_with (fail)
    go_ret
    exact ⟨rfl, (by repeat (first | exact Below.refl _ _ | refine Below.alloc ?_ (by first | omega | (simp; done) | (simp; omega)) _ | apply Below.drew | apply below_drewN | refine Below.setCell ?_ (by first | omega | (simp; done) | (simp; omega)) _ | refine Below.trans ?_ (Below.mono (by assumption) (by first | omega | (simp; done) | (simp; omega)))))⟩
  have H1 : 0 ≤ szR (1048576) (RStringS.wt l) := szR_pos.2 q_l
  have t_l : 1048576 ≤ 1048576 := by omega
  have hw_l : l.length + swts l ≤ 1048576 := by have : ((l.length + swts l : Nat) : Int) ≤ 1048576 := q_l; omega
  have hn_l : l.length ≤ 1048576 := by omega
  have cnt_l : RStringS.cnt l ≤ 8388608 := by show l.length * 1 ≤ _; omega
  have q_p : p.size ≤ 1048576 := q_p
  go_enter Try.func7, Try.ntmps7
  go_wp2_with (fail)
  refine (r_szStringS l v_l _ _ (RStringS.rawk r_l (Below.refl _ _)) (by omega)).mono ?_; rintro e w1 ⟨rfl, hb1⟩
  have hz1 := hb1.size
  have hB1 : Below w.heap.size w w1 := hb1
  go_wp2_with (fail)
  refine (r_toStringS l v_l _ (RStringS.rawk r_l (hB1)) (by omega)).mono ?_; rintro e w2 ⟨v2, rfl, o2, hb2⟩
  have hz2 := hb2.size
  have hB2 : Below w.heap.size w w2 := hB1.trans (hb2.mono (by omega))
  go_wp2_with (fail)
  refine (r1_s _ l i p _ _ o2.1 hn_l q_p (wf_i64 m_i)).mono ?_; rintro e w3 ⟨rfl, hb3⟩
  have hz3 := hb3.size
  have hB3 : Below w.heap.size w w3 := hB2.trans (hb3.mono (by omega))
  have o_y0_3 := Rep.keep (R := RStringS) o2 hb3
  try simp only [r1V]
  go_wp2_with (fail)
  refine (r_toStringS l v_l _ (RStringS.rawk r_l (hB3)) (by omega)).mono ?_; rintro e w4 ⟨v4, rfl, o4, hb4⟩
  have hz4 := hb4.size
  have hB4 : Below w.heap.size w w4 := hB3.trans (hb4.mono (by omega))
  go_wp2_with (fail)
  refine (r1_i _ l i p _ _ o4.1 hn_l q_p (wf_i64 m_i)).mono ?_; rintro e w5 ⟨rfl, hb5⟩
  have hz5 := hb5.size
  have hB5 : Below w.heap.size w w5 := hB4.trans (hb5.mono (by omega))
  have o_x0_5 := Rep.keep (R := RStringS) o4 hb5
  try simp only [r1V]
  go_wp2_with (fail)
  refine (r_toStringS l v_l _ (RStringS.rawk r_l (hB5)) (by omega)).mono ?_; rintro e w6 ⟨v6, rfl, o6, hb6⟩
  have hz6 := hb6.size
  have hB6 : Below w.heap.size w w6 := hB5.trans (hb6.mono (by omega))
  have o_x0_6 := Rep.keep (R := RStringS) o_x0_5 hb6
  go_wp2_with (fail)
  refine (r_eqStringS l _ _ _ _ _ _ _ o_x0_6 o6 cnt_l).mono ?_; rintro e w7 ⟨rfl, hb7⟩
  have hz7 := hb7.size
  have hB7 : Below w.heap.size w w7 := hB6.trans (hb7.mono (by omega))
  have o_x0_7 := Rep.keep (R := RStringS) o_x0_6 hb7
  have o_z_7 := Rep.keep (R := RStringS) o6 hb7
  go_wp2_with (fail)
  go_ret
  exact ⟨rfl, hB7⟩
end Go.Proofs.Ytkdadaocbfbndaa
