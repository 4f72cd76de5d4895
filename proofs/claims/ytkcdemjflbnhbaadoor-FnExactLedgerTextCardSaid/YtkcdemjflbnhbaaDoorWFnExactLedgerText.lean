/- The walk of FnExactLedgerText. Printed by gen_law.py. -/
import Derived.Test.YtkcdemjflbnhbaaDoorLedJ
import Derived.Test.YtkcdemjflbnhbaaDoorLedS
namespace Go.Proofs.YtkcdemjflbnhbaaDoor
set_option linter.unusedVariables false
open Go.RowKit

set_option maxRecDepth 20000 in
set_option maxHeartbeats 4000000 in
theorem walkFnExactLedgerText (l : List Ent) (v_l : Value) (w : World) (r_l : REntryS.raw w v_l l) (tab : Pow w) :
    Calls Tryd.prog 3 #[v_l] w fun e w' => e = .returned (.bool true) ∧ Below w.heap.size w w' := by
  by_cases q_l : ((REntryS.wt l : Nat) : Int) ≤ 1048576
  rotate_left
  · have H0 : szR (1048576) (REntryS.wt l) < 0 := szR_neg.2 q_l
    go_enter Tryd.func3, Tryd.ntmps3
    go_wp2_with (fail)
    refine (r_szEntryS l v_l _ _ (REntryS.rawk r_l (by repeat (first | exact Below.refl _ _ | refine Below.alloc ?_ (by first | omega | (simp; done) | (simp; omega)) _ | apply Below.drew | apply below_drewN | refine Below.setCell ?_ (by first | omega | (simp; done) | (simp; omega)) _ | refine Below.trans ?_ (Below.mono (by assumption) (by first | omega | (simp; done) | (simp; omega)))))) (by omega)).mono ?_; rintro e w1 ⟨rfl, hb1⟩
    have hz1 := hb1.size
    go_wp2_with (fail)
    go_ret
    exact ⟨rfl, (by repeat (first | exact Below.refl _ _ | refine Below.alloc ?_ (by first | omega | (simp; done) | (simp; omega)) _ | apply Below.drew | apply below_drewN | refine Below.setCell ?_ (by first | omega | (simp; done) | (simp; omega)) _ | refine Below.trans ?_ (Below.mono (by assumption) (by first | omega | (simp; done) | (simp; omega)))))⟩
  have H0 : 0 ≤ szR (1048576) (REntryS.wt l) := szR_pos.2 q_l
  have hv_l : ∀ e ∈ l, e.verb.size ≤ 1048576 := fun e he => by have h1 := wt_le he; have h2 : l.length + Ent.wts l ≤ 1048576 := (by have : ((l.length + Ent.wts l : Nat) : Int) ≤ 1048576 := q_l; omega); omega
  have hn_l : l.length ≤ 1048576 := by have : ((l.length + Ent.wts l : Nat) : Int) ≤ 1048576 := q_l; omega
  have cnt_l : REntryS.cnt l ≤ 8388608 := by show l.length * 4 ≤ _; omega
  go_enter Tryd.func3, Tryd.ntmps3
  go_wp2_with (fail)
  refine (r_szEntryS l v_l _ _ (REntryS.rawk r_l (Below.refl _ _)) (by omega)).mono ?_; rintro e w1 ⟨rfl, hb1⟩
  have hz1 := hb1.size
  have hB1 : Below w.heap.size w w1 := hb1
  go_wp2_with (fail)
  refine (r_toEntryS l v_l _ (REntryS.rawk r_l (hB1)) (by omega)).mono ?_; rintro e w2 ⟨v2, rfl, o2, hb2⟩
  have hz2 := hb2.size
  have hB2 : Below w.heap.size w w2 := hB1.trans (hb2.mono (by omega))
  go_wp2_with (fail)
  refine (ltext_s _ l _ _ o2.1 hn_l hv_l).mono ?_; rintro e w3 ⟨rfl, hb3⟩
  have hz3 := hb3.size
  have hB3 : Below w.heap.size w w3 := hB2.trans (hb3.mono (by omega))
  have o_y0_3 := Rep.keep (R := REntryS) o2 hb3
  go_wp2_with (fail)
  refine (r_toEntryS l v_l _ (REntryS.rawk r_l (hB3)) (by omega)).mono ?_; rintro e w4 ⟨v4, rfl, o4, hb4⟩
  have hz4 := hb4.size
  have hB4 : Below w.heap.size w w4 := hB3.trans (hb4.mono (by omega))
  go_wp2_with (fail)
  refine (ltext_i _ l _ _ o4.1 hn_l hv_l (tab.below (hB4))).mono ?_; rintro e w5 ⟨rfl, hb5⟩
  have hz5 := hb5.size
  have hB5 : Below w.heap.size w w5 := hB4.trans (hb5.mono (by omega))
  have o_x0_5 := Rep.keep (R := REntryS) o4 hb5
  go_wp2_with (fail)
  refine (r_toEntryS l v_l _ (REntryS.rawk r_l (hB5)) (by omega)).mono ?_; rintro e w6 ⟨v6, rfl, o6, hb6⟩
  have hz6 := hb6.size
  have hB6 : Below w.heap.size w w6 := hB5.trans (hb6.mono (by omega))
  have o_x0_6 := Rep.keep (R := REntryS) o_x0_5 hb6
  go_wp2_with (fail)
  refine (r_eqEntryS l _ _ _ _ _ _ _ o_x0_6 o6 cnt_l).mono ?_; rintro e w7 ⟨rfl, hb7⟩
  have hz7 := hb7.size
  have hB7 : Below w.heap.size w w7 := hB6.trans (hb7.mono (by omega))
  have o_x0_7 := Rep.keep (R := REntryS) o_x0_6 hb7
  have o_z_7 := Rep.keep (R := REntryS) o6 hb7
  go_wp2_with (fail)
  go_ret
  exact ⟨rfl, hB7⟩
end Go.Proofs.YtkcdemjflbnhbaaDoor
