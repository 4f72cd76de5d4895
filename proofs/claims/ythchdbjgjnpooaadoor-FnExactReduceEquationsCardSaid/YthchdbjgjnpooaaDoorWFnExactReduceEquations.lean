/- The walk of FnExactReduceEquations. Printed by gen_law.py. -/
import Derived.Test.YthchdbjgjnpooaaDoorRdeI
import Derived.Test.YthchdbjgjnpooaaDoorRdeS
import Derived.Test.YthchdbjgjnpooaaDoorHEqA
import Derived.Test.YthchdbjgjnpooaaDoorOpen
namespace Go.Proofs.YthchdbjgjnpooaaDoor
set_option linter.unusedVariables false
set_option linter.unusedSimpArgs false
open Go.RowKit

set_option maxRecDepth 20000 in
set_option maxHeartbeats 4000000 in
theorem walkFnExactReduceEquations (l : List Eqn) (v_l : Value) (u : Int) (w : World) (r_l : REqS.raw w v_l l) (tab : Tz w) (m_u : (Lit.int .i64 u).wf = true) :
    Calls Tryd.prog 4 #[v_l, .int .i64 u] w fun e w' => e = .returned (.bool true) ∧ Below w.heap.size w w' := by
  by_cases q_l : ((REqS.wt l : Nat) : Int) ≤ 1048576
  rotate_left
  · have H0 : szR (1048576) (REqS.wt l) < 0 := szR_neg.2 q_l
    go_enter Tryd.func4, Tryd.ntmps4
    go_wp2_with (fail)
    refine (r_szEqS l v_l _ _ (REqS.rawk r_l (by repeat (first | exact Below.refl _ _ | refine Below.alloc ?_ (by first | omega | (simp; done) | (simp; omega)) _ | apply Below.drew | apply below_drewN | refine Below.setCell ?_ (by first | omega | (simp; done) | (simp; omega)) _ | refine Below.trans ?_ (Below.mono (by assumption) (by first | omega | (simp; done) | (simp; omega)))))) (by omega)).mono ?_; rintro e w1 ⟨rfl, hb1⟩
    have hz1 := hb1.size
    go_wp2_with (fail)
    go_ret
    exact ⟨rfl, (by repeat (first | exact Below.refl _ _ | refine Below.alloc ?_ (by first | omega | (simp; done) | (simp; omega)) _ | apply Below.drew | apply below_drewN | refine Below.setCell ?_ (by first | omega | (simp; done) | (simp; omega)) _ | refine Below.trans ?_ (Below.mono (by assumption) (by first | omega | (simp; done) | (simp; omega)))))⟩
  have H0 : 0 ≤ szR (1048576) (REqS.wt l) := szR_pos.2 q_l
  have hu := wf_i64 m_u
  have hw_l : l.length + Eqn.wts l ≤ 1048576 := by have : ((l.length + Eqn.wts l : Nat) : Int) ≤ 1048576 := q_l; omega
  have hn_l : l.length ≤ 1048576 := by omega
  have hb_l : ∀ e ∈ l, e.bits.length ≤ 1048576 := fun e he => by have := Eqn.wts_le he; omega
  have hq_l : REqS.wt l ≤ 1048576 := hw_l
  have cnt_l : REqS.cnt l ≤ 8388608 := by show cntE l ≤ _; rw [cntE_le]; omega
  have cnt_res : REqS.cnt (rdE l u).1 ≤ 8388608 := rdE_cnt l u
  go_enter Tryd.func4, Tryd.ntmps4
  go_wp2_with (fail)
  refine (r_szEqS l v_l _ _ (REqS.rawk r_l (Below.refl _ _)) (by omega)).mono ?_; rintro e w1 ⟨rfl, hb1⟩
  have hz1 := hb1.size
  have hB1 : Below w.heap.size w w1 := hb1
  go_wp2_with (fail)
  refine (r_toEqS l v_l _ (REqS.rawk r_l (hB1)) (by omega)).mono ?_; rintro e w2 ⟨v2, rfl, o2, hb2⟩
  have hz2 := hb2.size
  have hB2 : Below w.heap.size w w2 := hB1.trans (hb2.mono (by omega))
  go_wp2_with (fail)
  refine (rde_s _ l _ u _ (EqTree.own o2) hn_l hb_l hu).mono ?_; rintro e w3 ⟨v3, rfl, o3, hb3⟩
  have hz3 := hb3.size
  have hB3 : Below w.heap.size w w3 := hB2.trans (hb3.mono (by omega))
  have o_y0_3 := Rep.keep (R := REqS) o2 hb3
  go_wp2_with (fail)
  refine (r_toEqS l v_l _ (REqS.rawk r_l (hB3)) (by omega)).mono ?_; rintro e w4 ⟨v4, rfl, o4, hb4⟩
  have hz4 := hb4.size
  have hB4 : Below w.heap.size w w4 := hB3.trans (hb4.mono (by omega))
  have o_w0_4 := Rep.keep (R := REqS) o3 hb4
  go_wp2_with (fail)
  refine (rde_i _ l _ u _ (EqTree.own o4) hn_l hb_l hu (tab.below (hB4))).mono ?_; rintro e w5 ⟨v5, rfl, o5, hb5⟩
  have hz5 := hb5.size
  have hB5 : Below w.heap.size w w5 := hB4.trans (hb5.mono (by omega))
  have o_w0_5 := Rep.keep (R := REqS) o_w0_4 hb5
  have o_x0_5 := Rep.keep (R := REqS) o4 hb5
  go_wp2_with (fail)
  refine (r_eqEqS ((rdE l u).1) _ _ _ _ _ _ _ o5 o_w0_5 cnt_res).mono ?_; rintro e w6 ⟨rfl, hb6⟩
  have hz6 := hb6.size
  have hB6 : Below w.heap.size w w6 := hB5.trans (hb6.mono (by omega))
  have o_w0_6 := Rep.keep (R := REqS) o_w0_5 hb6
  have o_x0_6 := Rep.keep (R := REqS) o_x0_5 hb6
  have o_g0_6 := Rep.keep (R := REqS) o5 hb6
  go_wp2_with (fail)
  refine (r_toEqS l v_l _ (REqS.rawk r_l (hB6)) (by omega)).mono ?_; rintro e w7 ⟨v7, rfl, o7, hb7⟩
  have hz7 := hb7.size
  have hB7 : Below w.heap.size w w7 := hB6.trans (hb7.mono (by omega))
  have o_w0_7 := Rep.keep (R := REqS) o_w0_6 hb7
  have o_x0_7 := Rep.keep (R := REqS) o_x0_6 hb7
  have o_g0_7 := Rep.keep (R := REqS) o_g0_6 hb7
  go_wp2_with (fail)
  refine (r_eqEqS l _ _ _ _ _ _ _ o_x0_7 o7 cnt_l).mono ?_; rintro e w8 ⟨rfl, hb8⟩
  have hz8 := hb8.size
  have hB8 : Below w.heap.size w w8 := hB7.trans (hb8.mono (by omega))
  have o_w0_8 := Rep.keep (R := REqS) o_w0_7 hb8
  have o_x0_8 := Rep.keep (R := REqS) o_x0_7 hb8
  have o_g0_8 := Rep.keep (R := REqS) o_g0_7 hb8
  have o_z_8 := Rep.keep (R := REqS) o7 hb8
  go_wp2_with (fail)
  refine (r_markEqS l _ (1) _ _ _ o_x0_8 cnt_l (by omega) (by omega)).mono ?_; rintro e w9 ⟨rfl, o9, hc9⟩
  have hz9 := hc9.size
  have hB9 : Below w.heap.size w w9 := Chg.below hB8 hc9 (by omega) (Nat.le_refl _)
  have o_w0_9 := REqS.chg o_w0_8 hc9 (by omega)
  have o_g0_9 := REqS.chg o_g0_8 hc9 (by omega)
  go_wp2_with (fail)
  refine (r_eqEqS ((rdE l u).1) _ _ _ _ _ _ _ o_g0_9 o_w0_9 cnt_res).mono ?_; rintro e w10 ⟨rfl, hb10⟩
  have hz10 := hb10.size
  have hB10 : Below w.heap.size w w10 := hB9.trans (hb10.mono (by omega))
  have o_w0_10 := Rep.keep (R := REqS) o_w0_9 hb10
  have o_g0_10 := Rep.keep (R := REqS) o_g0_9 hb10
  go_wp2_with (fail)
  refine (r_markEqS ((rdE l u).1) _ (1) _ _ _ o_g0_10 cnt_res (by omega) (by omega)).mono ?_; rintro e w11 ⟨rfl, o11, hc11⟩
  have hz11 := hc11.size
  have hB11 : Below w.heap.size w w11 := Chg.below hB10 hc11 (by omega) (Nat.le_refl _)
  have o_w0_11 := REqS.chg o_w0_10 hc11 (by omega)
  go_wp2_with (fail)
  refine (r_heldEqS ((rdE l u).1) _ (1) _ _ _ o11 cnt_res (by omega) (by omega)).mono ?_; rintro e w12 ⟨rfl, hb12⟩
  have hz12 := hb12.size
  have hB12 : Below w.heap.size w w12 := hB11.trans (hb12.mono (by omega))
  have o_w0_12 := Rep.keep (R := REqS) o_w0_11 hb12
  have o_g0_12 := Rep.keep (R := REqS) o11 hb12
  go_wp2_with (fail)
  refine (r_toEqS l v_l _ (REqS.rawk r_l (hB12)) (by omega)).mono ?_; rintro e w13 ⟨v13, rfl, o13, hb13⟩
  have hz13 := hb13.size
  have hB13 : Below w.heap.size w w13 := hB12.trans (hb13.mono (by omega))
  have o_w0_13 := Rep.keep (R := REqS) o_w0_12 hb13
  have o_g0_13 := Rep.keep (R := REqS) o_g0_12 hb13
  go_wp2_with (fail)
  refine (rde_i _ l _ u _ (EqTree.own o13) hn_l hb_l hu (tab.below (hB13))).mono ?_; rintro e w14 ⟨v14, rfl, o14, hb14⟩
  have hz14 := hb14.size
  have hB14 : Below w.heap.size w w14 := hB13.trans (hb14.mono (by omega))
  have o_w0_14 := Rep.keep (R := REqS) o_w0_13 hb14
  have o_g0_14 := Rep.keep (R := REqS) o_g0_13 hb14
  have o_x0_14 := Rep.keep (R := REqS) o13 hb14
  go_wp2_with (fail)
  refine (r_eqEqS ((rdE l u).1) _ _ _ _ _ _ _ o14 o_w0_14 cnt_res).mono ?_; rintro e w15 ⟨rfl, hb15⟩
  have hz15 := hb15.size
  have hB15 : Below w.heap.size w w15 := hB14.trans (hb15.mono (by omega))
  have o_w0_15 := Rep.keep (R := REqS) o_w0_14 hb15
  have o_g0_15 := Rep.keep (R := REqS) o_g0_14 hb15
  have o_h0_15 := Rep.keep (R := REqS) o14 hb15
  go_wp2_with (fail)
  refine (r_heldEqS ((rdE l u).1) _ (1) _ _ _ o_g0_15 cnt_res (by omega) (by omega)).mono ?_; rintro e w16 ⟨rfl, hb16⟩
  have hz16 := hb16.size
  have hB16 : Below w.heap.size w w16 := hB15.trans (hb16.mono (by omega))
  have o_w0_16 := Rep.keep (R := REqS) o_w0_15 hb16
  have o_g0_16 := Rep.keep (R := REqS) o_g0_15 hb16
  have o_h0_16 := Rep.keep (R := REqS) o_h0_15 hb16
  go_wp2_with (fail)
  go_ret
  exact ⟨rfl, hB16⟩
end Go.Proofs.YthchdbjgjnpooaaDoor
