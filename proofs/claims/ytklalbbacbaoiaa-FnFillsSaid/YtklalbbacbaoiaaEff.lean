/- CrcEffect and FindFlip, impl and spec: the walks. -/
import Derived.Test.YtklalbbacbaoiaaFlip
namespace Go.Proofs.Ytklalbbacbaoiaa
set_option linter.unusedVariables false
open Go.RowKit

def effR (n b : Int) : Int := if inB n 1 64 && inB b 0 (8 * n - 1) then (effN n.toNat b.toNat : Nat) else 0
theorem effR_no1 {n b : Int} (h : inB n 1 64 = false) : effR n b = 0 := by unfold effR; rw [h]; rfl
theorem effR_no2 {n b : Int} (h : inB b 0 (8 * n - 1) = false) : effR n b = 0 := by unfold effR; rw [h, Bool.and_false]; rfl
theorem effR_yes {n b : Nat} (h : inB n 1 64 = true) (h2 : inB b 0 (8 * (n : Int) - 1) = true) : effR n b = (effN n b : Nat) := by unfold effR; rw [h, h2]; rfl
set_option maxHeartbeats 1000000 in
theorem effR_i (n b : Int) (w : World) (hn : -9223372036854775808 ≤ n ∧ n ≤ 9223372036854775807) (hb : -9223372036854775808 ≤ b ∧ b ≤ 9223372036854775807) :
    Calls Try.prog 21 #[.int .i64 n, .int .i64 b] w fun e w' => e = .returned (.int .i64 (effR n b)) ∧ Below w.heap.size w w' := by
  cases h1 : inB n 1 64
  · have HF := Lib.hid (effR_no1 (b := b) h1)
    go_enter Try.func21, Try.ntmps21
    go_wp2_with (go_at_call 54; refine (within_i _ _ _ _).mono ?_; rintro e w1 ⟨rfl, rfl⟩)
    go_ret
    exact ⟨ret_int HF.out.symm, Below.refl _ _⟩
  · have h1' := inB_yes h1
    cases h2 : inB b 0 (8 * n - 1)
    · have HF := Lib.hid (effR_no2 h2)
      go_enter Try.func21, Try.ntmps21
      go_wp2_with (go_at_call 54; refine (within_i _ _ _ _).mono ?_; rintro e w1 ⟨rfl, rfl⟩)
      go_ret
      exact ⟨ret_int HF.out.symm, Below.refl _ _⟩
    · have h2' := inB_yes h2
      obtain ⟨n, rfl⟩ : ∃ m : Nat, n = m := ⟨n.toNat, by omega⟩
      obtain ⟨b, rfl⟩ : ∃ m : Nat, b = m := ⟨b.toNat, by omega⟩
      have HF := Lib.hid (effR_yes h1 h2)
      go_enter Try.func21, Try.ntmps21
      go_wp2_with (first | (go_at_call 54; refine (within_i _ _ _ _).mono ?_; rintro e w1 ⟨rfl, rfl⟩) | (go_at_call 58; refine (eff_i n b _ (by omega) (by omega)).mono ?_; rintro e w1 ⟨rfl, hb1⟩))
      go_ret
      exact ⟨ret_int HF.out.symm, hb1⟩
set_option maxHeartbeats 1000000 in
theorem effR_s (n b : Int) (w : World) (hn : -9223372036854775808 ≤ n ∧ n ≤ 9223372036854775807) (hb : -9223372036854775808 ≤ b ∧ b ≤ 9223372036854775807) :
    Calls Try.prog 20 #[.int .i64 n, .int .i64 b] w fun e w' => e = .returned (.int .i64 (effR n b)) ∧ Below w.heap.size w w' := by
  cases h1 : inB n 1 64
  · have HF := Lib.hid (effR_no1 (b := b) h1)
    go_enter Try.func20, Try.ntmps20
    go_wp2_with (go_at_call 51; refine (in_s _ _ _ _).mono ?_; rintro e w1 ⟨rfl, rfl⟩)
    go_ret
    exact ⟨ret_int HF.out.symm, Below.refl _ _⟩
  · have h1' := inB_yes h1
    cases h2 : inB b 0 (8 * n - 1)
    · have HF := Lib.hid (effR_no2 h2)
      go_enter Try.func20, Try.ntmps20
      go_wp2_with (go_at_call 51; refine (in_s _ _ _ _).mono ?_; rintro e w1 ⟨rfl, rfl⟩)
      go_ret
      exact ⟨ret_int HF.out.symm, Below.refl _ _⟩
    · have h2' := inB_yes h2
      obtain ⟨n, rfl⟩ : ∃ m : Nat, n = m := ⟨n.toNat, by omega⟩
      obtain ⟨b, rfl⟩ : ∃ m : Nat, b = m := ⟨b.toNat, by omega⟩
      have HF := Lib.hid (effR_yes h1 h2)
      go_enter Try.func20, Try.ntmps20
      go_wp2_with (first | (go_at_call 51; refine (in_s _ _ _ _).mono ?_; rintro e w1 ⟨rfl, rfl⟩) | (go_at_call 57; refine (eff_s n b _ (by omega) (by omega)).mono ?_; rintro e w1 ⟨rfl, hb1⟩))
      go_ret
      exact ⟨ret_int HF.out.symm, hb1⟩
end Go.Proofs.Ytklalbbacbaoiaa
