/- zeros: its contract. -/
import Derived.Test.YtjkfkjbakokjeaaBuf
import Derived.Test.YtjkfkjbakokjeaaRep
namespace Go.Proofs.Ytjkfkjbakokjeaa
set_option linter.unusedVariables false
open Go.RowKit

theorem strN_zero (n : Nat) : strN (List.replicate n 0) = ⟨(Lib.repeatL [0] n).toArray⟩ := by
  apply ByteArray.ext
  apply Array.ext'
  rw [strN, strOfNums_data]
  induction n with
  | zero => rfl
  | succ n ih => simp only [List.replicate_succ, List.map_cons, Lib.repeatL] at ih ⊢; simpa using ih
theorem zeros_i (n : Nat) (w : World) (h : n ≤ 16777216) : Calls Try.prog 73 #[.int .i64 n] w fun e w' => e = .returned (.string (strN (List.replicate n 0))) ∧ Below w.heap.size w w' := by
  have HR : ∀ w, Calls Try.prog 74 #[.string { data := #[0] }, .int .i64 n] w fun e w' => e = .returned (.string (strN (List.replicate n 0))) ∧ Below w.heap.size w w' := fun w => by
    rw [strN_zero]
    exact Try.strings_Repeat { data := #[0] } n w (by omega) (by show 1 * n ≤ _; omega)
  go_enter Try.func73, Try.ntmps73
  go_wp2_with (go_at_call 74; refine (HR _).mono ?_; rintro e w1 ⟨rfl, hb1⟩)
  go_ret
  exact ⟨rfl, hb1⟩
end Go.Proofs.Ytjkfkjbakokjeaa
