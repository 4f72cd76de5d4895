/- The laws' drawn dumps. -/
import Derived.Test.YtignjjkldmninaaDrwL
namespace Go.Proofs.Ytignjjkldmninaa
set_option linter.unusedVariables false
open Go.RowKit
set_option maxHeartbeats 1000000 in
theorem e8dumps_s (A : Option Addr) (n c : Nat) (w : World) (h : BytesIn w A n) (hn : n ≤ 1048576) :
    Calls Try.prog 57 #[.slice A n c] w fun e w' => ∃ v l, e = .returned v ∧ DscOwn w.heap.size w' v l ∧ dumpsOk l = true ∧ Below w.heap.size w w' := by
  have hD : DrAt (w.alloc (.cells #[.slice A n c, .int .i64 0, .int .u64 0] 130)) w.heap.size A n c 0 := by
    refine ⟨by simp, by simp, by simp, ⟨0, by simp⟩, by simp, ?_⟩
    rcases h with h | ⟨b, o, h1, h2, h3⟩
    · exact .inl h
    · exact .inr ⟨b, o, h1, h2, fun j hj => by
        obtain ⟨x, hx, hc⟩ := h3 j hj
        exact ⟨x, hx, (World.cell?_alloc_old _ _ _ (Nat.ne_of_lt h2)).trans hc⟩⟩
  have HG := draw24 w.heap.size A n c 0 _ hD hn (by omega)
  clear h hD
  go_enter Try.func57, Try.ntmps57
  go_wp2_with (first | (go_at_call 102; refine HG.mono ?_; rintro e w1 ⟨v, l, rfl, hO, hg, hC⟩) | go_in)
  go_ret
  exact ⟨v, l, rfl, DscOwn.base hO (by simp), hg, (Below.alloc (Below.refl _ _) (Nat.le_refl _) _).trans ⟨hC.os, hC.tape, hC.output, hC.size, fun k hk => hC.block k (by simp; omega) (by omega)⟩⟩
end Go.Proofs.Ytignjjkldmninaa
