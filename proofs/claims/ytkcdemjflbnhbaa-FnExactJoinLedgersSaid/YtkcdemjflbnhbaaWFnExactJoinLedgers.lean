/- The walk of FnExactJoinLedgers. Printed by gen_law.py. -/
import Derived.Test.YtkcdemjflbnhbaaJoinS
namespace Go.Proofs.Ytkcdemjflbnhbaa
set_option linter.unusedVariables false
open Go.RowKit

set_option maxHeartbeats 4000000 in
theorem walkFnExactJoinLedgers (x : List Ent) (v_x : Value) (y : List Ent) (v_y : Value) (w : World) (r_x : REntryS.raw w v_x x) (r_y : REntryS.raw w v_y y) :
    Calls Try.prog 9 #[v_x, v_y] w fun e w' => e = .returned (.bool true) ∧ Below w.heap.size w w' := by
  by_cases q_x : ((REntryS.wt x : Nat) : Int) ≤ 1048576
  rotate_left
  · have H0 : szR (1048576) (REntryS.wt x) < 0 := szR_neg.2 q_x
    go_enter Try.func9, Try.ntmps9
    go_wp2_with (fail)
    refine (r_szEntryS x v_x _ _ (REntryS.rawk r_x (by repeat (first | exact Below.refl _ _ | refine Below.alloc ?_ (by first | omega | (simp; done) | (simp; omega)) _ | apply Below.drew | apply below_drewN | refine Below.setCell ?_ (by first | omega | (simp; done) | (simp; omega)) _ | refine Below.trans ?_ (Below.mono (by assumption) (by first | omega | (simp; done) | (simp; omega)))))) (by omega)).mono ?_; rintro e w1 ⟨rfl, hb1⟩
    have hz1 := hb1.size
    go_wp2_with (fail)
    go_ret
    exact ⟨rfl, (by repeat (first | exact Below.refl _ _ | refine Below.alloc ?_ (by first | omega | (simp; done) | (simp; omega)) _ | apply Below.drew | apply below_drewN | refine Below.setCell ?_ (by first | omega | (simp; done) | (simp; omega)) _ | refine Below.trans ?_ (Below.mono (by assumption) (by first | omega | (simp; done) | (simp; omega)))))⟩
  have H0 : 0 ≤ szR (1048576) (REntryS.wt x) := szR_pos.2 q_x
  by_cases q_y : ((REntryS.wt y : Nat) : Int) ≤ szR (1048576) (REntryS.wt x)
  rotate_left
  · have H1 : szR (szR (1048576) (REntryS.wt x)) (REntryS.wt y) < 0 := szR_neg.2 q_y
    go_enter Try.func9, Try.ntmps9
    go_wp2_with (fail)
    refine (r_szEntryS x v_x _ _ (REntryS.rawk r_x (by repeat (first | exact Below.refl _ _ | refine Below.alloc ?_ (by first | omega | (simp; done) | (simp; omega)) _ | apply Below.drew | apply below_drewN | refine Below.setCell ?_ (by first | omega | (simp; done) | (simp; omega)) _ | refine Below.trans ?_ (Below.mono (by assumption) (by first | omega | (simp; done) | (simp; omega)))))) (by omega)).mono ?_; rintro e w1 ⟨rfl, hb1⟩
    have hz1 := hb1.size
    go_wp2_with (fail)
    refine (r_szEntryS y v_y _ _ (REntryS.rawk r_y (by repeat (first | exact Below.refl _ _ | refine Below.alloc ?_ (by first | omega | (simp; done) | (simp; omega)) _ | apply Below.drew | apply below_drewN | refine Below.setCell ?_ (by first | omega | (simp; done) | (simp; omega)) _ | refine Below.trans ?_ (Below.mono (by assumption) (by first | omega | (simp; done) | (simp; omega)))))) ⟨szR_pos.2 q_x, szR_le (by omega)⟩).mono ?_; rintro e w2 ⟨rfl, hb2⟩
    have hz2 := hb2.size
    go_wp2_with (fail)
    go_ret
    exact ⟨rfl, (by repeat (first | exact Below.refl _ _ | refine Below.alloc ?_ (by first | omega | (simp; done) | (simp; omega)) _ | apply Below.drew | apply below_drewN | refine Below.setCell ?_ (by first | omega | (simp; done) | (simp; omega)) _ | refine Below.trans ?_ (Below.mono (by assumption) (by first | omega | (simp; done) | (simp; omega)))))⟩
  have H1 : 0 ≤ szR (szR (1048576) (REntryS.wt x)) (REntryS.wt y) := szR_pos.2 q_y
  have t_x : 1048576 ≤ 1048576 := by omega
  have hw_x : x.length + Ent.wts x ≤ 1048576 := by have : ((x.length + Ent.wts x : Nat) : Int) ≤ 1048576 := q_x; omega
  have hv_x : ∀ e ∈ x, e.verb.size ≤ 1048576 := fun e he => by have h1 := wt_le he; omega
  have hn_x : x.length ≤ 1048576 := by omega
  have cnt_x : REntryS.cnt x ≤ 8388608 := by show x.length * 4 ≤ _; omega
  have t_y : szR (1048576) (REntryS.wt x) ≤ 1048576 := szR_le (by omega)
  have hw_y : y.length + Ent.wts y ≤ 1048576 := by have : ((y.length + Ent.wts y : Nat) : Int) ≤ szR (1048576) (REntryS.wt x) := q_y; omega
  have hv_y : ∀ e ∈ y, e.verb.size ≤ 1048576 := fun e he => by have h1 := wt_le he; omega
  have hn_y : y.length ≤ 1048576 := by omega
  have cnt_y : REntryS.cnt y ≤ 8388608 := by show y.length * 4 ≤ _; omega
  have cnt_res : REntryS.cnt (joinE x y).1 ≤ 8388608 := by show (joinE x y).1.length * 4 ≤ _; have := joinE_len x y; omega
  go_enter Try.func9, Try.ntmps9
  go_wp2_with (fail)
  refine (r_szEntryS x v_x _ _ (REntryS.rawk r_x (Below.refl _ _)) (by omega)).mono ?_; rintro e w1 ⟨rfl, hb1⟩
  have hz1 := hb1.size
  have hB1 : Below w.heap.size w w1 := hb1
  go_wp2_with (fail)
  refine (r_szEntryS y v_y _ _ (REntryS.rawk r_y (hB1)) ⟨szR_pos.2 q_x, szR_le (by omega)⟩).mono ?_; rintro e w2 ⟨rfl, hb2⟩
  have hz2 := hb2.size
  have hB2 : Below w.heap.size w w2 := hB1.trans (hb2.mono (by omega))
  go_wp2_with (fail)
  refine (r_toEntryS x v_x _ (REntryS.rawk r_x (hB2)) (by omega)).mono ?_; rintro e w3 ⟨v3, rfl, o3, hb3⟩
  have hz3 := hb3.size
  have hB3 : Below w.heap.size w w3 := hB2.trans (hb3.mono (by omega))
  go_wp2_with (fail)
  refine (r_toEntryS y v_y _ (REntryS.rawk r_y (hB3)) (by omega)).mono ?_; rintro e w4 ⟨v4, rfl, o4, hb4⟩
  have hz4 := hb4.size
  have hB4 : Below w.heap.size w w4 := hB3.trans (hb4.mono (by omega))
  have o_y0_4 := Rep.keep (R := REntryS) o3 hb4
  go_wp2_with (fail)
  refine (join_s _ _ _ x y _ hn_x hn_y o_y0_4.1 (o4.1.base (by omega)) hv_x hv_y).mono ?_; rintro e w5 ⟨v5, rfl, o5, hb5⟩
  have hz5 := hb5.size
  have hB5 : Below w.heap.size w w5 := hB4.trans (hb5.mono (by omega))
  have o_y0_5 := Rep.keep (R := REntryS) o_y0_4 hb5
  have o_y1_5 := Rep.keep (R := REntryS) o4 hb5
  go_wp2_with (fail)
  refine (r_toEntryS x v_x _ (REntryS.rawk r_x (hB5)) (by omega)).mono ?_; rintro e w6 ⟨v6, rfl, o6, hb6⟩
  have hz6 := hb6.size
  have hB6 : Below w.heap.size w w6 := hB5.trans (hb6.mono (by omega))
  have o_w0_6 := Rep.keep (R := REntryS) o5 hb6
  go_wp2_with (fail)
  refine (r_toEntryS y v_y _ (REntryS.rawk r_y (hB6)) (by omega)).mono ?_; rintro e w7 ⟨v7, rfl, o7, hb7⟩
  have hz7 := hb7.size
  have hB7 : Below w.heap.size w w7 := hB6.trans (hb7.mono (by omega))
  have o_w0_7 := Rep.keep (R := REntryS) o_w0_6 hb7
  have o_x0_7 := Rep.keep (R := REntryS) o6 hb7
  go_wp2_with (fail)
  refine (join_i _ _ _ x y _ hn_x hn_y o_x0_7.1 (o7.1.base (by omega)) hv_x hv_y).mono ?_; rintro e w8 ⟨v8, rfl, o8, hb8⟩
  have hz8 := hb8.size
  have hB8 : Below w.heap.size w w8 := hB7.trans (hb8.mono (by omega))
  have o_w0_8 := Rep.keep (R := REntryS) o_w0_7 hb8
  have o_x0_8 := Rep.keep (R := REntryS) o_x0_7 hb8
  have o_x1_8 := Rep.keep (R := REntryS) o7 hb8
  go_wp2_with (fail)
  refine (r_eqEntryS ((joinE x y).1) _ _ _ _ _ _ _ o8 o_w0_8 cnt_res).mono ?_; rintro e w9 ⟨rfl, hb9⟩
  have hz9 := hb9.size
  have hB9 : Below w.heap.size w w9 := hB8.trans (hb9.mono (by omega))
  have o_w0_9 := Rep.keep (R := REntryS) o_w0_8 hb9
  have o_x0_9 := Rep.keep (R := REntryS) o_x0_8 hb9
  have o_x1_9 := Rep.keep (R := REntryS) o_x1_8 hb9
  have o_g0_9 := Rep.keep (R := REntryS) o8 hb9
  go_wp2_with (fail)
  refine (r_toEntryS x v_x _ (REntryS.rawk r_x (hB9)) (by omega)).mono ?_; rintro e w10 ⟨v10, rfl, o10, hb10⟩
  have hz10 := hb10.size
  have hB10 : Below w.heap.size w w10 := hB9.trans (hb10.mono (by omega))
  have o_w0_10 := Rep.keep (R := REntryS) o_w0_9 hb10
  have o_x0_10 := Rep.keep (R := REntryS) o_x0_9 hb10
  have o_x1_10 := Rep.keep (R := REntryS) o_x1_9 hb10
  have o_g0_10 := Rep.keep (R := REntryS) o_g0_9 hb10
  go_wp2_with (fail)
  refine (r_eqEntryS x _ _ _ _ _ _ _ o_x0_10 o10 cnt_x).mono ?_; rintro e w11 ⟨rfl, hb11⟩
  have hz11 := hb11.size
  have hB11 : Below w.heap.size w w11 := hB10.trans (hb11.mono (by omega))
  have o_w0_11 := Rep.keep (R := REntryS) o_w0_10 hb11
  have o_x0_11 := Rep.keep (R := REntryS) o_x0_10 hb11
  have o_x1_11 := Rep.keep (R := REntryS) o_x1_10 hb11
  have o_g0_11 := Rep.keep (R := REntryS) o_g0_10 hb11
  have o_z_11 := Rep.keep (R := REntryS) o10 hb11
  go_wp2_with (fail)
  refine (r_toEntryS y v_y _ (REntryS.rawk r_y (hB11)) (by omega)).mono ?_; rintro e w12 ⟨v12, rfl, o12, hb12⟩
  have hz12 := hb12.size
  have hB12 : Below w.heap.size w w12 := hB11.trans (hb12.mono (by omega))
  have o_w0_12 := Rep.keep (R := REntryS) o_w0_11 hb12
  have o_x0_12 := Rep.keep (R := REntryS) o_x0_11 hb12
  have o_x1_12 := Rep.keep (R := REntryS) o_x1_11 hb12
  have o_g0_12 := Rep.keep (R := REntryS) o_g0_11 hb12
  go_wp2_with (fail)
  refine (r_eqEntryS y _ _ _ _ _ _ _ o_x1_12 o12 cnt_y).mono ?_; rintro e w13 ⟨rfl, hb13⟩
  have hz13 := hb13.size
  have hB13 : Below w.heap.size w w13 := hB12.trans (hb13.mono (by omega))
  have o_w0_13 := Rep.keep (R := REntryS) o_w0_12 hb13
  have o_x0_13 := Rep.keep (R := REntryS) o_x0_12 hb13
  have o_x1_13 := Rep.keep (R := REntryS) o_x1_12 hb13
  have o_g0_13 := Rep.keep (R := REntryS) o_g0_12 hb13
  have o_z_13 := Rep.keep (R := REntryS) o12 hb13
  go_wp2_with (fail)
  refine (r_markEntryS x _ (1) _ _ _ o_x0_13 cnt_x (by omega) (by omega)).mono ?_; rintro e w14 ⟨rfl, o14, hc14⟩
  have hz14 := hc14.size
  have hB14 : Below w.heap.size w w14 := Chg.below hB13 hc14 (by omega) (Nat.le_refl _)
  have o_w0_14 := REntryS.chg o_w0_13 hc14 (by omega)
  have o_x1_14 := REntryS.chg o_x1_13 hc14 (by omega)
  have o_g0_14 := REntryS.chg o_g0_13 hc14 (by omega)
  go_wp2_with (fail)
  refine (r_markEntryS y _ (1 + REntryS.cnt x) _ _ _ o_x1_14 cnt_y (by omega) (by omega)).mono ?_; rintro e w15 ⟨rfl, o15, hc15⟩
  have hz15 := hc15.size
  have hB15 : Below w.heap.size w w15 := Chg.below hB14 hc15 (by omega) (Nat.le_refl _)
  have o_w0_15 := REntryS.chg o_w0_14 hc15 (by omega)
  have o_g0_15 := REntryS.chg o_g0_14 hc15 (by omega)
  go_wp2_with (fail)
  refine (r_eqEntryS ((joinE x y).1) _ _ _ _ _ _ _ o_g0_15 o_w0_15 cnt_res).mono ?_; rintro e w16 ⟨rfl, hb16⟩
  have hz16 := hb16.size
  have hB16 : Below w.heap.size w w16 := hB15.trans (hb16.mono (by omega))
  have o_w0_16 := Rep.keep (R := REntryS) o_w0_15 hb16
  have o_g0_16 := Rep.keep (R := REntryS) o_g0_15 hb16
  go_wp2_with (fail)
  refine (r_markEntryS ((joinE x y).1) _ (1) _ _ _ o_g0_16 cnt_res (by omega) (by omega)).mono ?_; rintro e w17 ⟨rfl, o17, hc17⟩
  have hz17 := hc17.size
  have hB17 : Below w.heap.size w w17 := Chg.below hB16 hc17 (by omega) (Nat.le_refl _)
  have o_w0_17 := REntryS.chg o_w0_16 hc17 (by omega)
  go_wp2_with (fail)
  refine (r_heldEntryS ((joinE x y).1) _ (1) _ _ _ o17 cnt_res (by omega) (by omega)).mono ?_; rintro e w18 ⟨rfl, hb18⟩
  have hz18 := hb18.size
  have hB18 : Below w.heap.size w w18 := hB17.trans (hb18.mono (by omega))
  have o_w0_18 := Rep.keep (R := REntryS) o_w0_17 hb18
  have o_g0_18 := Rep.keep (R := REntryS) o17 hb18
  go_wp2_with (fail)
  refine (r_toEntryS x v_x _ (REntryS.rawk r_x (hB18)) (by omega)).mono ?_; rintro e w19 ⟨v19, rfl, o19, hb19⟩
  have hz19 := hb19.size
  have hB19 : Below w.heap.size w w19 := hB18.trans (hb19.mono (by omega))
  have o_w0_19 := Rep.keep (R := REntryS) o_w0_18 hb19
  have o_g0_19 := Rep.keep (R := REntryS) o_g0_18 hb19
  go_wp2_with (fail)
  refine (r_toEntryS y v_y _ (REntryS.rawk r_y (hB19)) (by omega)).mono ?_; rintro e w20 ⟨v20, rfl, o20, hb20⟩
  have hz20 := hb20.size
  have hB20 : Below w.heap.size w w20 := hB19.trans (hb20.mono (by omega))
  have o_w0_20 := Rep.keep (R := REntryS) o_w0_19 hb20
  have o_g0_20 := Rep.keep (R := REntryS) o_g0_19 hb20
  have o_x0_20 := Rep.keep (R := REntryS) o19 hb20
  go_wp2_with (fail)
  refine (join_i _ _ _ x y _ hn_x hn_y o_x0_20.1 (o20.1.base (by omega)) hv_x hv_y).mono ?_; rintro e w21 ⟨v21, rfl, o21, hb21⟩
  have hz21 := hb21.size
  have hB21 : Below w.heap.size w w21 := hB20.trans (hb21.mono (by omega))
  have o_w0_21 := Rep.keep (R := REntryS) o_w0_20 hb21
  have o_g0_21 := Rep.keep (R := REntryS) o_g0_20 hb21
  have o_x0_21 := Rep.keep (R := REntryS) o_x0_20 hb21
  have o_x1_21 := Rep.keep (R := REntryS) o20 hb21
  go_wp2_with (fail)
  refine (r_eqEntryS ((joinE x y).1) _ _ _ _ _ _ _ o21 o_w0_21 cnt_res).mono ?_; rintro e w22 ⟨rfl, hb22⟩
  have hz22 := hb22.size
  have hB22 : Below w.heap.size w w22 := hB21.trans (hb22.mono (by omega))
  have o_w0_22 := Rep.keep (R := REntryS) o_w0_21 hb22
  have o_g0_22 := Rep.keep (R := REntryS) o_g0_21 hb22
  have o_h0_22 := Rep.keep (R := REntryS) o21 hb22
  go_wp2_with (fail)
  refine (r_heldEntryS ((joinE x y).1) _ (1) _ _ _ o_g0_22 cnt_res (by omega) (by omega)).mono ?_; rintro e w23 ⟨rfl, hb23⟩
  have hz23 := hb23.size
  have hB23 : Below w.heap.size w w23 := hB22.trans (hb23.mono (by omega))
  have o_w0_23 := Rep.keep (R := REntryS) o_w0_22 hb23
  have o_g0_23 := Rep.keep (R := REntryS) o_g0_22 hb23
  have o_h0_23 := Rep.keep (R := REntryS) o_h0_22 hb23
  go_wp2_with (fail)
  go_ret
  exact ⟨rfl, hB23⟩
end Go.Proofs.Ytkcdemjflbnhbaa
