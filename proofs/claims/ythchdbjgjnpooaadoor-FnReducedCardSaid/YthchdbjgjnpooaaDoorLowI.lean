/- lowest: the walk. -/
import Derived.Test.YthchdbjgjnpooaaDoorRwL
namespace Go.Proofs.YthchdbjgjnpooaaDoor
set_option linter.unusedVariables false
set_option linter.unusedSimpArgs false
open Go.RowKit
theorem low_lt {m : Nat} (h0 : m ≠ 0) (h : m < 18446744073709551616) : low m < 64 := by
  apply Classical.byContradiction; intro hk
  have := low_on m h0
  rw [Nat.testBit_lt_two_pow (Nat.lt_of_lt_of_le (show m < 2 ^ 64 from h) (Nat.pow_le_pow_right (by omega) (by omega)))] at this; cases this
theorem low_pred (m : Nat) (h0 : m ≠ 0) (i : Nat) : (m.testBit i && !(m - 1).testBit i) = decide (low m = i) := by
  induction m using Nat.strongRecOn generalizing i with
  | _ m ih =>
    unfold low
    rw [dif_neg h0]
    by_cases h1 : m % 2 = 1
    · rw [if_pos h1]
      cases i with
      | zero => rw [Nat.testBit_zero, Nat.testBit_zero, show (m - 1) % 2 = 0 by omega, h1]; rfl
      | succ i => rw [Nat.testBit_succ, Nat.testBit_succ, show (m - 1) / 2 = m / 2 by omega, Bool.and_not_self]; simp
    · rw [if_neg h1]
      cases i with
      | zero => rw [Nat.testBit_zero, show m % 2 = 0 by omega]; simp
      | succ i =>
        rw [Nat.testBit_succ, Nat.testBit_succ, show (m - 1) / 2 = m / 2 - 1 by omega, ih (m / 2) (by omega) (by omega)]
        simp
theorem low_and (m : Nat) (h0 : m ≠ 0) (h : m < 18446744073709551616) : m &&& (18446744073709551616 - m) = 2 ^ low m := by
  refine Nat.eq_of_testBit_eq fun i => ?_
  have hl := low_lt h0 h
  rw [Nat.testBit_and, show 18446744073709551616 - m = 2 ^ 64 - ((m - 1) + 1) by omega, Nat.testBit_two_pow_sub_succ (by omega), Nat.testBit_two_pow]
  by_cases hi : i < 64
  · rw [decide_eq_true hi, Bool.true_and, low_pred m h0]
  · rw [decide_eq_false hi, Bool.false_and, Bool.and_false]
    simp; omega
theorem low_neg (m : Nat) (h0 : m ≠ 0) (h : m < 18446744073709551616) : IntKind.u64.wrap (-(m : Int)) = ((18446744073709551616 - m : Nat) : Int) := by
  rw [IntKind.wrap_u64]; omega
set_option maxHeartbeats 1000000 in
theorem low_i (m : Nat) (w : World) (h0 : m ≠ 0) (h : m < 18446744073709551616) :
    Calls Tryd.prog 22 #[.int .u64 m] w fun e w' => e = .returned (.int .u64 ((2 ^ low m : Nat) : Int)) ∧ w = w' := by
  have HW := low_neg m h0 h
  have HA := u64_and_nat m (18446744073709551616 - m) h (by omega)
  rw [low_and m h0 h] at HA
  go_enter Tryd.func22, Tryd.ntmps22
  go_wp2
  go_ret
  exact ⟨rfl, rfl⟩
end Go.Proofs.YthchdbjgjnpooaaDoor
