/- The walk of FnExactRestoreTwo. Printed by gen_law.py. -/
import Derived.Test.YtkdadaocbfbndaaRTwoS
import Derived.Test.YtkdadaocbfbndaaHString
import Derived.Test.YtkdadaocbfbndaaHInt64
import Derived.Test.YtkdadaocbfbndaaStrOf
import Derived.Test.YtkdadaocbfbndaaOpen
namespace Go.Proofs.Ytkdadaocbfbndaa
set_option linter.unusedVariables false
open Go.RowKit

set_option maxRecDepth 20000 in
set_option maxHeartbeats 4000000 in
theorem walkFnExactRestoreTwo (l : List ByteArray) (v_l : Value) (x : List Int) (v_x : Value) (p : ByteArray) (q : ByteArray) (w : World) (r_l : RStringS.raw w v_l l) (r_x : RInt64S.raw w v_x x) (m_p : p.size ≤ maxLen) (m_q : q.size ≤ maxLen) :
    Calls Try.prog 8 #[v_l, v_x, .string p, .string q] w fun e w' => e = .returned (.bool true) ∧ Below w.heap.size w w' := by
  have hl_x : x.length ≤ maxLen := by obtain ⟨⟨_, _, _, h, _⟩, _⟩ := r_x; exact h
  unfold maxLen at hl_x
  have hv_x : ∃ A c, v_x = .slice A x.length c := by obtain ⟨⟨A, c, h, _⟩, _⟩ := r_x; exact ⟨A, c, h⟩
  obtain ⟨A_x, c_x, rfl⟩ := hv_x
  unfold maxLen at m_p
  unfold maxLen at m_q
  by_cases q_x : x.length ≤ 1048576
  rotate_left
  · go_enter Try.func8, Try.ntmps8
    go_wp2_with (fail)
    go_ret
    exact ⟨rfl, (by repeat (first | exact Below.refl _ _ | refine Below.alloc ?_ (by first | omega | (simp; done) | (simp; omega)) _ | apply Below.drew | apply below_drewN | refine Below.setCell ?_ (by first | omega | (simp; done) | (simp; omega)) _ | refine Below.trans ?_ (Below.mono (by assumption) (by first | omega | (simp; done) | (simp; omega)))))⟩
  by_cases q_p : p.size ≤ 1048576
  rotate_left
  · go_enter Try.func8, Try.ntmps8
    go_wp2_with (fail)
    go_ret
    exact ⟨rfl, (by repeat (first | exact Below.refl _ _ | refine Below.alloc ?_ (by first | omega | (simp; done) | (simp; omega)) _ | apply Below.drew | apply below_drewN | refine Below.setCell ?_ (by first | omega | (simp; done) | (simp; omega)) _ | refine Below.trans ?_ (Below.mono (by assumption) (by first | omega | (simp; done) | (simp; omega)))))⟩
  by_cases q_q : q.size ≤ 1048576
  rotate_left
  · go_enter Try.func8, Try.ntmps8
    go_wp2_with (fail)
    go_ret
    exact ⟨rfl, (by repeat (first | exact Below.refl _ _ | refine Below.alloc ?_ (by first | omega | (simp; done) | (simp; omega)) _ | apply Below.drew | apply below_drewN | refine Below.setCell ?_ (by first | omega | (simp; done) | (simp; omega)) _ | refine Below.trans ?_ (Below.mono (by assumption) (by first | omega | (simp; done) | (simp; omega)))))⟩
  by_cases q_l : ((RStringS.wt l : Nat) : Int) ≤ 1048576
  rotate_left
  · have H3 : szR (1048576) (RStringS.wt l) < 0 := szR_neg.2 q_l
    go_enter Try.func8, Try.ntmps8
    go_wp2_with (fail)
    refine (r_szStringS l v_l _ _ (RStringS.rawk r_l (by repeat (first | exact Below.refl _ _ | refine Below.alloc ?_ (by first | omega | (simp; done) | (simp; omega)) _ | apply Below.drew | apply below_drewN | refine Below.setCell ?_ (by first | omega | (simp; done) | (simp; omega)) _ | refine Below.trans ?_ (Below.mono (by assumption) (by first | omega | (simp; done) | (simp; omega)))))) (by omega)).mono ?_; rintro e w1 ⟨rfl, hb1⟩
    have hz1 := hb1.size
    go_wp2_with (fail)
    go_ret
    exact ⟨rfl, (by repeat (first | exact Below.refl _ _ | refine Below.alloc ?_ (by first | omega | (simp; done) | (simp; omega)) _ | apply Below.drew | apply below_drewN | refine Below.setCell ?_ (by first | omega | (simp; done) | (simp; omega)) _ | refine Below.trans ?_ (Below.mono (by assumption) (by first | omega | (simp; done) | (simp; omega)))))⟩
  have H3 : 0 ≤ szR (1048576) (RStringS.wt l) := szR_pos.2 q_l
  have t_l : 1048576 ≤ 1048576 := by omega
  have hw_l : l.length + swts l ≤ 1048576 := by have : ((l.length + swts l : Nat) : Int) ≤ 1048576 := q_l; omega
  have hn_l : l.length ≤ 1048576 := by omega
  have cnt_l : RStringS.cnt l ≤ 8388608 := by show l.length * 1 ≤ _; omega
  have q_p : p.size ≤ 1048576 := q_p
  have q_q : q.size ≤ 1048576 := q_q
  have cnt_x : RInt64S.cnt x ≤ 8388608 := by show x.length * 1 ≤ _; omega
  have cnt_res : RStringS.cnt (r2E l x p q).1 ≤ 8388608 := by show (r2E l x p q).1.length * 1 ≤ _; have := r2_len l x p q; omega
  go_enter Try.func8, Try.ntmps8
  go_wp2_with (fail)
  refine (r_szStringS l v_l _ _ (RStringS.rawk r_l (Below.refl _ _)) (by omega)).mono ?_; rintro e w1 ⟨rfl, hb1⟩
  have hz1 := hb1.size
  have hB1 : Below w.heap.size w w1 := hb1
  go_wp2_with (fail)
  refine (r_toStringS l v_l _ (RStringS.rawk r_l (hB1)) (by omega)).mono ?_; rintro e w2 ⟨v2, rfl, o2, hb2⟩
  have hz2 := hb2.size
  have hB2 : Below w.heap.size w w2 := hB1.trans (hb2.mono (by omega))
  go_wp2_with (fail)
  refine (r_toInt64S x _ _ (RInt64S.rawk r_x (hB2)) (by omega)).mono ?_; rintro e w3 ⟨v3, rfl, o3, hb3⟩
  have hz3 := hb3.size
  have hB3 : Below w.heap.size w w3 := hB2.trans (hb3.mono (by omega))
  have o_y0_3 := Rep.keep (R := RStringS) o2 hb3
  go_wp2_with (fail)
  refine (r2_s _ l x p q _ _ _ o_y0_3.1 (intsAt_own o3.1) hn_l q_x q_p q_q).mono ?_; rintro e w4 ⟨v4, rfl, o4, hb4⟩
  have hz4 := hb4.size
  have hB4 : Below w.heap.size w w4 := hB3.trans (hb4.mono (by omega))
  have o_y0_4 := Rep.keep (R := RStringS) o_y0_3 hb4
  have o_y1_4 := Rep.keep (R := RInt64S) o3 hb4
  go_wp2_with (fail)
  refine (r_toStringS l v_l _ (RStringS.rawk r_l (hB4)) (by omega)).mono ?_; rintro e w5 ⟨v5, rfl, o5, hb5⟩
  have hz5 := hb5.size
  have hB5 : Below w.heap.size w w5 := hB4.trans (hb5.mono (by omega))
  have o_w0_5 := Rep.keep (R := RStringS) o4 hb5
  go_wp2_with (fail)
  refine (r_toInt64S x _ _ (RInt64S.rawk r_x (hB5)) (by omega)).mono ?_; rintro e w6 ⟨v6, rfl, o6, hb6⟩
  have hz6 := hb6.size
  have hB6 : Below w.heap.size w w6 := hB5.trans (hb6.mono (by omega))
  have o_w0_6 := Rep.keep (R := RStringS) o_w0_5 hb6
  have o_x0_6 := Rep.keep (R := RStringS) o5 hb6
  go_wp2_with (fail)
  refine (r2_i _ l x p q _ _ _ o_x0_6.1 (intsAt_own o6.1) hn_l q_x q_p q_q).mono ?_; rintro e w7 ⟨v7, rfl, o7, hb7⟩
  have hz7 := hb7.size
  have hB7 : Below w.heap.size w w7 := hB6.trans (hb7.mono (by omega))
  have o_w0_7 := Rep.keep (R := RStringS) o_w0_6 hb7
  have o_x0_7 := Rep.keep (R := RStringS) o_x0_6 hb7
  have o_x1_7 := Rep.keep (R := RInt64S) o6 hb7
  go_wp2_with (fail)
  refine (r_eqStringS ((r2E l x p q).1) _ _ _ _ _ _ _ o7 o_w0_7 cnt_res).mono ?_; rintro e w8 ⟨rfl, hb8⟩
  have hz8 := hb8.size
  have hB8 : Below w.heap.size w w8 := hB7.trans (hb8.mono (by omega))
  have o_w0_8 := Rep.keep (R := RStringS) o_w0_7 hb8
  have o_x0_8 := Rep.keep (R := RStringS) o_x0_7 hb8
  have o_x1_8 := Rep.keep (R := RInt64S) o_x1_7 hb8
  have o_g0_8 := Rep.keep (R := RStringS) o7 hb8
  go_wp2_with (fail)
  refine (r_toStringS l v_l _ (RStringS.rawk r_l (hB8)) (by omega)).mono ?_; rintro e w9 ⟨v9, rfl, o9, hb9⟩
  have hz9 := hb9.size
  have hB9 : Below w.heap.size w w9 := hB8.trans (hb9.mono (by omega))
  have o_w0_9 := Rep.keep (R := RStringS) o_w0_8 hb9
  have o_x0_9 := Rep.keep (R := RStringS) o_x0_8 hb9
  have o_x1_9 := Rep.keep (R := RInt64S) o_x1_8 hb9
  have o_g0_9 := Rep.keep (R := RStringS) o_g0_8 hb9
  go_wp2_with (fail)
  refine (r_eqStringS l _ _ _ _ _ _ _ o_x0_9 o9 cnt_l).mono ?_; rintro e w10 ⟨rfl, hb10⟩
  have hz10 := hb10.size
  have hB10 : Below w.heap.size w w10 := hB9.trans (hb10.mono (by omega))
  have o_w0_10 := Rep.keep (R := RStringS) o_w0_9 hb10
  have o_x0_10 := Rep.keep (R := RStringS) o_x0_9 hb10
  have o_x1_10 := Rep.keep (R := RInt64S) o_x1_9 hb10
  have o_g0_10 := Rep.keep (R := RStringS) o_g0_9 hb10
  have o_z_10 := Rep.keep (R := RStringS) o9 hb10
  go_wp2_with (fail)
  refine (r_toInt64S x _ _ (RInt64S.rawk r_x (hB10)) (by omega)).mono ?_; rintro e w11 ⟨v11, rfl, o11, hb11⟩
  have hz11 := hb11.size
  have hB11 : Below w.heap.size w w11 := hB10.trans (hb11.mono (by omega))
  have o_w0_11 := Rep.keep (R := RStringS) o_w0_10 hb11
  have o_x0_11 := Rep.keep (R := RStringS) o_x0_10 hb11
  have o_x1_11 := Rep.keep (R := RInt64S) o_x1_10 hb11
  have o_g0_11 := Rep.keep (R := RStringS) o_g0_10 hb11
  go_wp2_with (fail)
  refine (r_eqInt64S x _ _ _ _ _ _ _ o_x1_11 o11 cnt_x).mono ?_; rintro e w12 ⟨rfl, hb12⟩
  have hz12 := hb12.size
  have hB12 : Below w.heap.size w w12 := hB11.trans (hb12.mono (by omega))
  have o_w0_12 := Rep.keep (R := RStringS) o_w0_11 hb12
  have o_x0_12 := Rep.keep (R := RStringS) o_x0_11 hb12
  have o_x1_12 := Rep.keep (R := RInt64S) o_x1_11 hb12
  have o_g0_12 := Rep.keep (R := RStringS) o_g0_11 hb12
  have o_z_12 := Rep.keep (R := RInt64S) o11 hb12
  go_wp2_with (fail)
  refine (r_markStringS l _ (1) _ _ _ o_x0_12 cnt_l (by omega) (by omega)).mono ?_; rintro e w13 ⟨rfl, o13, hc13⟩
  have hz13 := hc13.size
  have hB13 : Below w.heap.size w w13 := Chg.below hB12 hc13 (by omega) (Nat.le_refl _)
  have o_w0_13 := RStringS.chg o_w0_12 hc13 (by omega)
  have o_x1_13 := RInt64S.chg o_x1_12 hc13 (by omega)
  have o_g0_13 := RStringS.chg o_g0_12 hc13 (by omega)
  go_wp2_with (fail)
  refine (r_markInt64S x _ (1 + RStringS.cnt l) _ _ _ o_x1_13 cnt_x (by omega) (by omega)).mono ?_; rintro e w14 ⟨rfl, o14, hc14⟩
  have hz14 := hc14.size
  have hB14 : Below w.heap.size w w14 := Chg.below hB13 hc14 (by omega) (Nat.le_refl _)
  have o_w0_14 := RStringS.chg o_w0_13 hc14 (by omega)
  have o_g0_14 := RStringS.chg o_g0_13 hc14 (by omega)
  go_wp2_with (fail)
  refine (r_eqStringS ((r2E l x p q).1) _ _ _ _ _ _ _ o_g0_14 o_w0_14 cnt_res).mono ?_; rintro e w15 ⟨rfl, hb15⟩
  have hz15 := hb15.size
  have hB15 : Below w.heap.size w w15 := hB14.trans (hb15.mono (by omega))
  have o_w0_15 := Rep.keep (R := RStringS) o_w0_14 hb15
  have o_g0_15 := Rep.keep (R := RStringS) o_g0_14 hb15
  go_wp2_with (fail)
  refine (r_markStringS ((r2E l x p q).1) _ (1) _ _ _ o_g0_15 cnt_res (by omega) (by omega)).mono ?_; rintro e w16 ⟨rfl, o16, hc16⟩
  have hz16 := hc16.size
  have hB16 : Below w.heap.size w w16 := Chg.below hB15 hc16 (by omega) (Nat.le_refl _)
  have o_w0_16 := RStringS.chg o_w0_15 hc16 (by omega)
  go_wp2_with (fail)
  refine (r_heldStringS ((r2E l x p q).1) _ (1) _ _ _ o16 cnt_res (by omega) (by omega)).mono ?_; rintro e w17 ⟨rfl, hb17⟩
  have hz17 := hb17.size
  have hB17 : Below w.heap.size w w17 := hB16.trans (hb17.mono (by omega))
  have o_w0_17 := Rep.keep (R := RStringS) o_w0_16 hb17
  have o_g0_17 := Rep.keep (R := RStringS) o16 hb17
  go_wp2_with (fail)
  refine (r_toStringS l v_l _ (RStringS.rawk r_l (hB17)) (by omega)).mono ?_; rintro e w18 ⟨v18, rfl, o18, hb18⟩
  have hz18 := hb18.size
  have hB18 : Below w.heap.size w w18 := hB17.trans (hb18.mono (by omega))
  have o_w0_18 := Rep.keep (R := RStringS) o_w0_17 hb18
  have o_g0_18 := Rep.keep (R := RStringS) o_g0_17 hb18
  go_wp2_with (fail)
  refine (r_toInt64S x _ _ (RInt64S.rawk r_x (hB18)) (by omega)).mono ?_; rintro e w19 ⟨v19, rfl, o19, hb19⟩
  have hz19 := hb19.size
  have hB19 : Below w.heap.size w w19 := hB18.trans (hb19.mono (by omega))
  have o_w0_19 := Rep.keep (R := RStringS) o_w0_18 hb19
  have o_g0_19 := Rep.keep (R := RStringS) o_g0_18 hb19
  have o_x0_19 := Rep.keep (R := RStringS) o18 hb19
  go_wp2_with (fail)
  refine (r2_i _ l x p q _ _ _ o_x0_19.1 (intsAt_own o19.1) hn_l q_x q_p q_q).mono ?_; rintro e w20 ⟨v20, rfl, o20, hb20⟩
  have hz20 := hb20.size
  have hB20 : Below w.heap.size w w20 := hB19.trans (hb20.mono (by omega))
  have o_w0_20 := Rep.keep (R := RStringS) o_w0_19 hb20
  have o_g0_20 := Rep.keep (R := RStringS) o_g0_19 hb20
  have o_x0_20 := Rep.keep (R := RStringS) o_x0_19 hb20
  have o_x1_20 := Rep.keep (R := RInt64S) o19 hb20
  go_wp2_with (fail)
  refine (r_eqStringS ((r2E l x p q).1) _ _ _ _ _ _ _ o20 o_w0_20 cnt_res).mono ?_; rintro e w21 ⟨rfl, hb21⟩
  have hz21 := hb21.size
  have hB21 : Below w.heap.size w w21 := hB20.trans (hb21.mono (by omega))
  have o_w0_21 := Rep.keep (R := RStringS) o_w0_20 hb21
  have o_g0_21 := Rep.keep (R := RStringS) o_g0_20 hb21
  have o_h0_21 := Rep.keep (R := RStringS) o20 hb21
  go_wp2_with (fail)
  refine (r_heldStringS ((r2E l x p q).1) _ (1) _ _ _ o_g0_21 cnt_res (by omega) (by omega)).mono ?_; rintro e w22 ⟨rfl, hb22⟩
  have hz22 := hb22.size
  have hB22 : Below w.heap.size w w22 := hB21.trans (hb22.mono (by omega))
  have o_w0_22 := Rep.keep (R := RStringS) o_w0_21 hb22
  have o_g0_22 := Rep.keep (R := RStringS) o_g0_21 hb22
  have o_h0_22 := Rep.keep (R := RStringS) o_h0_21 hb22
  go_wp2_with (fail)
  go_ret
  exact ⟨rfl, hB22⟩
end Go.Proofs.Ytkdadaocbfbndaa
