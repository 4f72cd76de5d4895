/- The walk of FnExactSolveBytes. Printed by gen_law.py. -/
import Derived.Test.YtklalbbacbaoiaaSolS
import Derived.Test.YtklalbbacbaoiaaHInt64
import Derived.Test.YtklalbbacbaoiaaOpen
namespace Go.Proofs.Ytklalbbacbaoiaa
set_option linter.unusedVariables false
open Go.RowKit

set_option maxRecDepth 20000 in
set_option maxHeartbeats 4000000 in
theorem walkFnExactSolveBytes (s : ByteArray) (x : List Int) (v_x : Value) (c : Int) (w : World) (m_s : s.size ≤ maxLen) (r_x : RInt64S.raw w v_x x) (m_c : (Lit.int .i64 c).wf = true) :
    Calls Try.prog 11 #[.string s, v_x, .int .i64 c] w fun e w' => e = .returned (.bool true) ∧ Below w.heap.size w w' := by
  have hl_x : x.length ≤ maxLen := by obtain ⟨⟨_, _, _, h, _⟩, _⟩ := r_x; exact h
  unfold maxLen at hl_x
  have hv_x : ∃ A c, v_x = .slice A x.length c := by obtain ⟨⟨A, c, h, _⟩, _⟩ := r_x; exact ⟨A, c, h⟩
  obtain ⟨A_x, c_x, rfl⟩ := hv_x
  unfold maxLen at m_s
  by_cases q_s : s.size ≤ 1048576
  rotate_left
  · go_enter Try.func11, Try.ntmps11
    go_wp2_with (fail)
    go_ret
    exact ⟨rfl, (by repeat (first | exact Below.refl _ _ | refine Below.alloc ?_ (by first | omega | (simp; done) | (simp; omega)) _ | apply Below.drew | apply below_drewN | refine Below.setCell ?_ (by first | omega | (simp; done) | (simp; omega)) _ | refine Below.trans ?_ (Below.mono (by assumption) (by first | omega | (simp; done) | (simp; omega)))))⟩
  by_cases q_x : x.length ≤ 1048576
  rotate_left
  · go_enter Try.func11, Try.ntmps11
    go_wp2_with (fail)
    go_ret
    exact ⟨rfl, (by repeat (first | exact Below.refl _ _ | refine Below.alloc ?_ (by first | omega | (simp; done) | (simp; omega)) _ | apply Below.drew | apply below_drewN | refine Below.setCell ?_ (by first | omega | (simp; done) | (simp; omega)) _ | refine Below.trans ?_ (Below.mono (by assumption) (by first | omega | (simp; done) | (simp; omega)))))⟩
  have q_s : s.size ≤ 1048576 := q_s
  have cnt_x : RInt64S.cnt x ≤ 8388608 := by show x.length * 1 ≤ _; omega
  go_enter Try.func11, Try.ntmps11
  go_wp2_with (fail)
  refine (r_toInt64S x _ _ (RInt64S.rawk r_x (Below.refl _ _)) (by omega)).mono ?_; rintro e w1 ⟨v1, rfl, o1, hb1⟩
  have hz1 := hb1.size
  have hB1 : Below w.heap.size w w1 := hb1
  go_wp2_with (fail)
  refine (sol_s s x _ c _ (intsAt_own o1.1) q_x q_s (wf_i64 m_c)).mono ?_; rintro e w2 ⟨rfl, hb2⟩
  have hz2 := hb2.size
  have hB2 : Below w.heap.size w w2 := hB1.trans (hb2.mono (by omega))
  have o_y0_2 := Rep.keep (R := RInt64S) o1 hb2
  try simp only [sbV]
  go_wp2_with (fail)
  refine (r_toInt64S x _ _ (RInt64S.rawk r_x (hB2)) (by omega)).mono ?_; rintro e w3 ⟨v3, rfl, o3, hb3⟩
  have hz3 := hb3.size
  have hB3 : Below w.heap.size w w3 := hB2.trans (hb3.mono (by omega))
  go_wp2_with (fail)
  refine (sol_i s x _ c _ (intsAt_own o3.1) q_x q_s).mono ?_; rintro e w4 ⟨rfl, hb4⟩
  have hz4 := hb4.size
  have hB4 : Below w.heap.size w w4 := hB3.trans (hb4.mono (by omega))
  have o_x0_4 := Rep.keep (R := RInt64S) o3 hb4
  try simp only [sbV]
  go_wp2_with (fail)
  refine (r_toInt64S x _ _ (RInt64S.rawk r_x (hB4)) (by omega)).mono ?_; rintro e w5 ⟨v5, rfl, o5, hb5⟩
  have hz5 := hb5.size
  have hB5 : Below w.heap.size w w5 := hB4.trans (hb5.mono (by omega))
  have o_x0_5 := Rep.keep (R := RInt64S) o_x0_4 hb5
  go_wp2_with (fail)
  refine (r_eqInt64S x _ _ _ _ _ _ _ o_x0_5 o5 cnt_x).mono ?_; rintro e w6 ⟨rfl, hb6⟩
  have hz6 := hb6.size
  have hB6 : Below w.heap.size w w6 := hB5.trans (hb6.mono (by omega))
  have o_x0_6 := Rep.keep (R := RInt64S) o_x0_5 hb6
  have o_z_6 := Rep.keep (R := RInt64S) o5 hb6
  go_wp2_with (fail)
  go_ret
  exact ⟨rfl, hB6⟩
end Go.Proofs.Ytklalbbacbaoiaa
