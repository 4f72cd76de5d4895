/- The walk of FnExactAllFills. Printed by gen_law.py. -/
import Derived.Test.YtklalbbacbaoiaaAllW
import Derived.Test.YtklalbbacbaoiaaHString
import Derived.Test.YtklalbbacbaoiaaHInt64
import Derived.Test.YtklalbbacbaoiaaOpen
namespace Go.Proofs.Ytklalbbacbaoiaa
set_option linter.unusedVariables false
open Go.RowKit

set_option maxRecDepth 20000 in
set_option maxHeartbeats 4000000 in
theorem walkFnExactAllFills (s : ByteArray) (x : List Int) (v_x : Value) (c : Int) (m : Int) (w : World) (m_s : s.size ≤ maxLen) (r_x : RInt64S.raw w v_x x) (m_c : (Lit.int .i64 c).wf = true) (m_m : (Lit.int .i64 m).wf = true) :
    Calls Try.prog 10 #[.string s, v_x, .int .i64 c, .int .i64 m] w fun e w' => e = .returned (.bool true) ∧ Below w.heap.size w w' := by
  have hl_x : x.length ≤ maxLen := by obtain ⟨⟨_, _, _, h, _⟩, _⟩ := r_x; exact h
  unfold maxLen at hl_x
  have hv_x : ∃ A c, v_x = .slice A x.length c := by obtain ⟨⟨A, c, h, _⟩, _⟩ := r_x; exact ⟨A, c, h⟩
  obtain ⟨A_x, c_x, rfl⟩ := hv_x
  unfold maxLen at m_s
  by_cases q_s : s.size ≤ 1048576
  rotate_left
  · go_enter Try.func10, Try.ntmps10
    go_wp2_with (fail)
    go_ret
    exact ⟨rfl, (by repeat (first | exact Below.refl _ _ | refine Below.alloc ?_ (by first | omega | (simp; done) | (simp; omega)) _ | apply Below.drew | apply below_drewN | refine Below.setCell ?_ (by first | omega | (simp; done) | (simp; omega)) _ | refine Below.trans ?_ (Below.mono (by assumption) (by first | omega | (simp; done) | (simp; omega)))))⟩
  by_cases q_x : x.length ≤ 1048576
  rotate_left
  · go_enter Try.func10, Try.ntmps10
    go_wp2_with (fail)
    go_ret
    exact ⟨rfl, (by repeat (first | exact Below.refl _ _ | refine Below.alloc ?_ (by first | omega | (simp; done) | (simp; omega)) _ | apply Below.drew | apply below_drewN | refine Below.setCell ?_ (by first | omega | (simp; done) | (simp; omega)) _ | refine Below.trans ?_ (Below.mono (by assumption) (by first | omega | (simp; done) | (simp; omega)))))⟩
  have q_s : s.size ≤ 1048576 := q_s
  have cnt_x : RInt64S.cnt x ≤ 8388608 := by show x.length * 1 ≤ _; omega
  have cnt_res : RStringS.cnt (alE s x c m).1 ≤ 8388608 := by show (alE s x c m).1.length * 1 ≤ _; have := alE_len s x c m; omega
  go_enter Try.func10, Try.ntmps10
  go_wp2_with (fail)
  refine (r_toInt64S x _ _ (RInt64S.rawk r_x (Below.refl _ _)) (by omega)).mono ?_; rintro e w1 ⟨v1, rfl, o1, hb1⟩
  have hz1 := hb1.size
  have hB1 : Below w.heap.size w w1 := hb1
  go_wp2_with (fail)
  refine (all_s s x _ c m _ (intsAt_own o1.1) q_x q_s).mono ?_; rintro e w2 ⟨v2, rfl, o2, hb2⟩
  have hz2 := hb2.size
  have hB2 : Below w.heap.size w w2 := hB1.trans (hb2.mono (by omega))
  have o_y0_2 := Rep.keep (R := RInt64S) o1 hb2
  go_wp2_with (fail)
  refine (r_toInt64S x _ _ (RInt64S.rawk r_x (hB2)) (by omega)).mono ?_; rintro e w3 ⟨v3, rfl, o3, hb3⟩
  have hz3 := hb3.size
  have hB3 : Below w.heap.size w w3 := hB2.trans (hb3.mono (by omega))
  have o_w0_3 := Rep.keep (R := RStringS) o2 hb3
  go_wp2_with (fail)
  refine (all_i s x _ c m _ (intsAt_own o3.1) q_x q_s).mono ?_; rintro e w4 ⟨v4, rfl, o4, hb4⟩
  have hz4 := hb4.size
  have hB4 : Below w.heap.size w w4 := hB3.trans (hb4.mono (by omega))
  have o_w0_4 := Rep.keep (R := RStringS) o_w0_3 hb4
  have o_x0_4 := Rep.keep (R := RInt64S) o3 hb4
  go_wp2_with (fail)
  refine (r_eqStringS ((alE s x c m).1) _ _ _ _ _ _ _ o4 o_w0_4 cnt_res).mono ?_; rintro e w5 ⟨rfl, hb5⟩
  have hz5 := hb5.size
  have hB5 : Below w.heap.size w w5 := hB4.trans (hb5.mono (by omega))
  have o_w0_5 := Rep.keep (R := RStringS) o_w0_4 hb5
  have o_x0_5 := Rep.keep (R := RInt64S) o_x0_4 hb5
  have o_g0_5 := Rep.keep (R := RStringS) o4 hb5
  go_wp2_with (fail)
  refine (r_toInt64S x _ _ (RInt64S.rawk r_x (hB5)) (by omega)).mono ?_; rintro e w6 ⟨v6, rfl, o6, hb6⟩
  have hz6 := hb6.size
  have hB6 : Below w.heap.size w w6 := hB5.trans (hb6.mono (by omega))
  have o_w0_6 := Rep.keep (R := RStringS) o_w0_5 hb6
  have o_x0_6 := Rep.keep (R := RInt64S) o_x0_5 hb6
  have o_g0_6 := Rep.keep (R := RStringS) o_g0_5 hb6
  go_wp2_with (fail)
  refine (r_eqInt64S x _ _ _ _ _ _ _ o_x0_6 o6 cnt_x).mono ?_; rintro e w7 ⟨rfl, hb7⟩
  have hz7 := hb7.size
  have hB7 : Below w.heap.size w w7 := hB6.trans (hb7.mono (by omega))
  have o_w0_7 := Rep.keep (R := RStringS) o_w0_6 hb7
  have o_x0_7 := Rep.keep (R := RInt64S) o_x0_6 hb7
  have o_g0_7 := Rep.keep (R := RStringS) o_g0_6 hb7
  have o_z_7 := Rep.keep (R := RInt64S) o6 hb7
  go_wp2_with (fail)
  refine (r_markInt64S x _ (1) _ _ _ o_x0_7 cnt_x (by omega) (by omega)).mono ?_; rintro e w8 ⟨rfl, o8, hc8⟩
  have hz8 := hc8.size
  have hB8 : Below w.heap.size w w8 := Chg.below hB7 hc8 (by omega) (Nat.le_refl _)
  have o_w0_8 := RStringS.chg o_w0_7 hc8 (by omega)
  have o_g0_8 := RStringS.chg o_g0_7 hc8 (by omega)
  go_wp2_with (fail)
  refine (r_eqStringS ((alE s x c m).1) _ _ _ _ _ _ _ o_g0_8 o_w0_8 cnt_res).mono ?_; rintro e w9 ⟨rfl, hb9⟩
  have hz9 := hb9.size
  have hB9 : Below w.heap.size w w9 := hB8.trans (hb9.mono (by omega))
  have o_w0_9 := Rep.keep (R := RStringS) o_w0_8 hb9
  have o_g0_9 := Rep.keep (R := RStringS) o_g0_8 hb9
  go_wp2_with (fail)
  refine (r_markStringS ((alE s x c m).1) _ (1) _ _ _ o_g0_9 cnt_res (by omega) (by omega)).mono ?_; rintro e w10 ⟨rfl, o10, hc10⟩
  have hz10 := hc10.size
  have hB10 : Below w.heap.size w w10 := Chg.below hB9 hc10 (by omega) (Nat.le_refl _)
  have o_w0_10 := RStringS.chg o_w0_9 hc10 (by omega)
  go_wp2_with (fail)
  refine (r_heldStringS ((alE s x c m).1) _ (1) _ _ _ o10 cnt_res (by omega) (by omega)).mono ?_; rintro e w11 ⟨rfl, hb11⟩
  have hz11 := hb11.size
  have hB11 : Below w.heap.size w w11 := hB10.trans (hb11.mono (by omega))
  have o_w0_11 := Rep.keep (R := RStringS) o_w0_10 hb11
  have o_g0_11 := Rep.keep (R := RStringS) o10 hb11
  go_wp2_with (fail)
  refine (r_toInt64S x _ _ (RInt64S.rawk r_x (hB11)) (by omega)).mono ?_; rintro e w12 ⟨v12, rfl, o12, hb12⟩
  have hz12 := hb12.size
  have hB12 : Below w.heap.size w w12 := hB11.trans (hb12.mono (by omega))
  have o_w0_12 := Rep.keep (R := RStringS) o_w0_11 hb12
  have o_g0_12 := Rep.keep (R := RStringS) o_g0_11 hb12
  go_wp2_with (fail)
  refine (all_i s x _ c m _ (intsAt_own o12.1) q_x q_s).mono ?_; rintro e w13 ⟨v13, rfl, o13, hb13⟩
  have hz13 := hb13.size
  have hB13 : Below w.heap.size w w13 := hB12.trans (hb13.mono (by omega))
  have o_w0_13 := Rep.keep (R := RStringS) o_w0_12 hb13
  have o_g0_13 := Rep.keep (R := RStringS) o_g0_12 hb13
  have o_x0_13 := Rep.keep (R := RInt64S) o12 hb13
  go_wp2_with (fail)
  refine (r_eqStringS ((alE s x c m).1) _ _ _ _ _ _ _ o13 o_w0_13 cnt_res).mono ?_; rintro e w14 ⟨rfl, hb14⟩
  have hz14 := hb14.size
  have hB14 : Below w.heap.size w w14 := hB13.trans (hb14.mono (by omega))
  have o_w0_14 := Rep.keep (R := RStringS) o_w0_13 hb14
  have o_g0_14 := Rep.keep (R := RStringS) o_g0_13 hb14
  have o_h0_14 := Rep.keep (R := RStringS) o13 hb14
  go_wp2_with (fail)
  refine (r_heldStringS ((alE s x c m).1) _ (1) _ _ _ o_g0_14 cnt_res (by omega) (by omega)).mono ?_; rintro e w15 ⟨rfl, hb15⟩
  have hz15 := hb15.size
  have hB15 : Below w.heap.size w w15 := hB14.trans (hb15.mono (by omega))
  have o_w0_15 := Rep.keep (R := RStringS) o_w0_14 hb15
  have o_g0_15 := Rep.keep (R := RStringS) o_g0_14 hb15
  have o_h0_15 := Rep.keep (R := RStringS) o_h0_14 hb15
  go_wp2_with (fail)
  go_ret
  exact ⟨rfl, hB15⟩
end Go.Proofs.Ytklalbbacbaoiaa
