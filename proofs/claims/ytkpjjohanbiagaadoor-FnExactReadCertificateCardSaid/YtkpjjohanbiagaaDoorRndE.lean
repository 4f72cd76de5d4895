/- Operations one behind the other, within a round: a law of no program. -/
import Derived.Test.YtkpjjohanbiagaaDoorRndB
import Derived.TacticsIn
namespace Go.Proofs.YtkpjjohanbiagaaDoor
set_option linter.unusedVariables false
set_option linter.unusedSimpArgs false
open Go.RowKit
theorem list_round {P : Program} {ops : Array Oper} {l0 m : Nat} {Q : Exit → Act → World → Prop} (hno : ¬ LetsOut Q) : ∀ (l : List Oper), noDef l = true → ∀ (a : Act) (w : World), wpList P ops Q l a w → wpListIn (Fence.wide.inRound l0) m P ops Q l a w
  | [], _, _, _, h => h
  | o :: l, hd, a, w, h => by
    have hd1 : noDef l = true := by
      unfold noDef at hd ⊢
      rw [List.all_cons, Bool.and_eq_true] at hd
      exact hd.2
    have ho : ∀ c, o.op ≠ .defer c := fun c e => by
      unfold noDef at hd
      rw [List.all_cons, Bool.and_eq_true, e] at hd
      exact absurd hd.1 (by simp)
    rw [wpList] at h
    rw [wpListIn]
    by_cases hw : Region.wanted o (yielded ops a.tmps) = true
    · rw [if_pos hw] at h ⊢
      rcases h with h | h
      · exact oper_round ho (Oper.wp_mono (fun a w h => list_round hno l hd1 a w h) h)
      · exact absurd h.2 hno
    · rw [if_neg hw] at h ⊢
      exact ⟨fun _ _ => trivial, list_round hno l hd1 _ _ h⟩
end Go.Proofs.YtkpjjohanbiagaaDoor
