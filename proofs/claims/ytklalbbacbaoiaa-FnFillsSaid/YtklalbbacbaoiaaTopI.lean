/- topmost: the walk. -/
import Derived.Test.YtklalbbacbaoiaaRowI
import Derived.Test.YtklalbbacbaoiaaLen
namespace Go.Proofs.Ytklalbbacbaoiaa
set_option linter.unusedVariables false
open Go.RowKit
theorem bitLen_top (m : Nat) (h0 : m ≠ 0) (h : m < 18446744073709551616) : Lib.bitLen m = top m + 1 := by
  induction m using Nat.strongRecOn with
  | _ m ih =>
    rw [Lib.bitLen_half m h0 h]
    unfold top
    rw [Nat.log2_def]
    by_cases h2 : 2 ≤ m
    · rw [if_pos h2, ih (m / 2) (by omega) (by omega) (by omega)]
      show 1 + (top (m / 2) + 1) = top (m / 2) + 1 + 1
      omega
    · rw [if_neg h2]
      obtain rfl : m = 1 := by omega
      rfl
theorem top_lt {m : Nat} (h0 : m ≠ 0) (h : m < 18446744073709551616) : top m < 64 := by
  apply Classical.byContradiction; intro hk
  have := top_on m h0
  rw [Nat.testBit_lt_two_pow (Nat.lt_of_lt_of_le (show m < 2 ^ 64 from h) (Nat.pow_le_pow_right (by omega) (by omega)))] at this; cases this
set_option maxHeartbeats 1000000 in
theorem top_i (m : Nat) (w : World) (h0 : m ≠ 0) (h : m < 18446744073709551616) :
    Calls Try.prog 73 #[.int .u64 m] w fun e w' => e = .returned (.int .u64 ((2 ^ top m : Nat) : Int)) ∧ w = w' := by
  have HL := Lib.hid (Try.bits_Len64 (m : Int) w (by omega) (by omega))
  rw [Int.toNat_natCast, bitLen_top m h0 h] at HL
  have ht := top_lt h0 h
  generalize top m = t at *
  have HW := Lib.hid (wrap_pow t ht)
  have e1 : ((t + 1 : Nat) : Int) - 1 = (t : Int) := by omega
  go_enter Try.func73, Try.ntmps73
  go_wp2_with (fail)
  refine HL.out.mono ?_; rintro e w1 ⟨rfl, rfl⟩
  go_wp2
  go_ret
  exact ⟨ret_int HW.out, rfl⟩
end Go.Proofs.Ytklalbbacbaoiaa
