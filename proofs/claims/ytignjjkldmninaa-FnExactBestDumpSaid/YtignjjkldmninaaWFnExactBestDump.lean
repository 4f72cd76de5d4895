/- The walk of FnExactBestDump. -/
import Derived.Test.YtignjjkldmninaaBest
namespace Go.Proofs.Ytignjjkldmninaa
set_option linter.unusedVariables false
open Go.RowKit
set_option maxHeartbeats 4000000 in
theorem walkFnExactBestDump (l : List Dsc) (v : Value) (w : World) (r : DscIn w v l) :
    Calls Try.prog 5 #[v] w fun e w' => e = .returned (.bool true) ∧ Below w.heap.size w w' := by
  have hms : ∀ d ∈ l, ∀ s ∈ d.secs, s.data.size ≤ maxLen := by
    obtain ⟨A, c, _, _, h⟩ := r
    rcases h with rfl | ⟨b, o, _, _, hc⟩
    · intro d hd; cases hd
    · intro d hd
      obtain ⟨k, hk, he⟩ := List.mem_iff_getElem.1 hd
      obtain ⟨bv, h1, _⟩ := hc k d (by rw [List.getElem?_eq_getElem hk, he])
      exact h1.2
  by_cases q : ((l.length + Dsc.wts l : Nat) : Int) ≤ 1048576
  rotate_left
  · have H : szR 1048576 (l.length + Dsc.wts l) < 0 := szR_neg.2 q
    go_enter Try.func5, Try.ntmps5
    go_wp2_with (fail)
    refine (szDscS l v _ _ r (by omega)).mono ?_; rintro e w1 ⟨rfl, hb1⟩
    go_wp2
    go_ret
    exact ⟨rfl, hb1⟩
  · have H : 0 ≤ szR 1048576 (l.length + Dsc.wts l) := szR_pos.2 q
    have hn : l.length ≤ 1048576 := by omega
    have hbl : ∀ e ∈ l, e.secs.length ≤ 1048576 := fun e he => by
      have h1 := Dsc.wts_le he
      have h2 : e.secs.length ≤ e.wt := Nat.le_add_right _ _
      omega
    go_enter Try.func5, Try.ntmps5
    go_wp2_with (fail)
    refine (szDscS l v _ _ r (by omega)).mono ?_; rintro e w1 ⟨rfl, hb1⟩
    have z1 := hb1.size
    go_wp2_with (fail)
    refine (toDscS l v _ (r.below hb1) hn hbl).mono ?_; rintro e w2 ⟨v2, rfl, o2, hb2⟩
    have z2 := hb2.size
    have B2 : Below w.heap.size w w2 := hb1.trans (hb2.mono (by omega))
    go_wp2_with (fail)
    refine (best_s _ l _ _ o2 hn hbl hms).mono ?_; rintro e w3 ⟨rfl, hb3⟩
    have z3 := hb3.size
    have B3 : Below w.heap.size w w3 := B2.trans (hb3.mono (by omega))
    go_wp2_with (fail)
    refine (toDscS l v _ (r.below B3) hn hbl).mono ?_; rintro e w4 ⟨v4, rfl, o4, hb4⟩
    have z4 := hb4.size
    have B4 : Below w.heap.size w w4 := B3.trans (hb4.mono (by omega))
    go_wp2_with (fail)
    refine (best_i _ l _ _ o4 hn hbl hms).mono ?_; rintro e w5 ⟨rfl, hb5⟩
    have z5 := hb5.size
    have B5 : Below w.heap.size w w5 := B4.trans (hb5.mono (by omega))
    go_wp2_with (fail)
    refine (toDscS l v _ (r.below B5) hn hbl).mono ?_; rintro e w6 ⟨v6, rfl, o6, hb6⟩
    have z6 := hb6.size
    have B6 : Below w.heap.size w w6 := B5.trans (hb6.mono (by omega))
    go_wp2_with (fail)
    refine (eqDscS l _ _ _ _ _ ((o4.below hb5).below hb6) o6 (by omega) (fun e he => by have := hbl e he; omega)).mono ?_; rintro e w7 ⟨rfl, hb7⟩
    go_wp2
    go_ret
    exact ⟨rfl, B6.trans (hb7.mono (by omega))⟩
end Go.Proofs.Ytignjjkldmninaa
