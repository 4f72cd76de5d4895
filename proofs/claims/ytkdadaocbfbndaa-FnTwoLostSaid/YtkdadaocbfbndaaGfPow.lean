/- GfPow, impl and spec: the walks. -/
import Derived.Test.YtkdadaocbfbndaaGf
namespace Go.Proofs.Ytkdadaocbfbndaa
set_option linter.unusedVariables false
open Go.RowKit

def gpow : Nat → Nat
  | 0 => 1
  | k + 1 => gmul (gpow k) 2 0
theorem gpow_lt (k : Nat) : gpow k < 256 := by
  cases k with
  | zero => decide
  | succ k => exact gmul_lt (gpow_lt k) (by omega)
/-- the remainder at 255 that is not below 0 -/
def m255 (x : Int) : Nat := (x % 255).toNat
theorem m255_lt (x : Int) : m255 x < 255 := by unfold m255; omega
theorem m255_is (x : Int) : (Int.tmod (Int.tmod x 255 + 255) 255) = (m255 x : Int) := by
  rcases Int.le_total 0 x with h | h
  · rw [Int.tmod_eq_emod_of_nonneg h, Int.tmod_eq_emod_of_nonneg (by omega)]; unfold m255; omega
  · have e : x.tmod 255 = -((-x) % 255) := by
      rw [← Int.tmod_eq_emod_of_nonneg (a := -x) (by omega), Int.neg_tmod, Int.neg_neg]
    rw [e, Int.tmod_eq_emod_of_nonneg (by omega)]; unfold m255; omega
theorem tmod255_bd (x : Int) : -255 < x.tmod 255 ∧ x.tmod 255 < 255 := by
  rcases Int.le_total 0 x with h | h
  · rw [Int.tmod_eq_emod_of_nonneg h]; omega
  · have e : x.tmod 255 = -((-x) % 255) := by
      rw [← Int.tmod_eq_emod_of_nonneg (a := -x) (by omega), Int.neg_tmod, Int.neg_neg]
    omega
theorem mod255_i (x : Int) (w : World) (hx : -9223372036854775808 ≤ x ∧ x ≤ 9223372036854775807) : Calls Try.prog 69 #[.int .i64 x, .int .i64 255] w fun e w' => e = .returned (.int .i64 (m255 x)) ∧ w = w' := by
  go_enter Try.func69, Try.ntmps69
  go_wp2
  refine bodyPost_ret (v := .int .i64 (m255 x)) ?_ rfl ⟨rfl, rfl⟩
  rw [← m255_is x]
  have hb := tmod255_bd x
  have hw : wrap64 (x.tmod 255 + 255) = x.tmod 255 + 255 := by unfold wrap64; omega
  simp [results, Try.results69, go_sem, hw]
set_option maxRecDepth 20000 in
set_option maxHeartbeats 1000000 in
theorem gpow_i (x : Int) (w : World) (hx : -9223372036854775808 ≤ x ∧ x ≤ 9223372036854775807) : Calls Try.prog 55 #[.int .i64 x] w fun e w' => e = .returned (.int .i64 (gpow (m255 x))) ∧ w = w' := by
  have hm := m255_lt x
  go_enter Try.func55, Try.ntmps55
  go_wp2_with (go_at_call 69; refine (mod255_i x w hx).mono ?_; rintro e w1 ⟨rfl, rfl⟩)
  generalize hmm : m255 x = m at *
  go_loop [6, 3] (fun i v => ∃ k : Nat, k ≤ m ∧ i = .int .i64 k ∧ v = .int .i64 (gpow k)) (fun i _ => m - (intOf i).toNat)
  case atStart => exact ⟨0, by omega, rfl, rfl⟩
  case round =>
    obtain ⟨k, hk, rfl, rfl⟩ := hrel
    have hg := gpow_lt k
    by_cases hlt : k < m
    · go_wp2_with (go_at_call 62; refine (gmul_i (gpow k) 2 w hg (by omega)).mono ?_; rintro e w1 ⟨rfl, rfl⟩)
      go_round
      case rel => exact ⟨k + 1, by omega, by go_num, rfl⟩
      case measure => simp [intOf]; omega
    · have : k = m := by omega
      subst this
      go_wp2
      go_ret
      exact ⟨rfl, rfl⟩
set_option maxRecDepth 20000 in
set_option maxHeartbeats 1000000 in
theorem gpow_s (x : Int) (w : World) (hx : -9223372036854775808 ≤ x ∧ x ≤ 9223372036854775807) : Calls Try.prog 38 #[.int .i64 x] w fun e w' => e = .returned (.int .i64 (gpow (m255 x))) ∧ w = w' := by
  have hm := m255_lt x
  have hb := tmod255_bd x
  have hw : wrap64 (x.tmod 255 + 255) = x.tmod 255 + 255 := by unfold wrap64; omega
  have hi := m255_is x
  generalize hmm : m255 x = m at *
  go_enter Try.func38, Try.ntmps38
  go_wp2
  go_loop [0, 3] (fun i v => ∃ k : Nat, k ≤ m ∧ i = .int .i64 ((m - k : Nat) : Int) ∧ v = .int .i64 (gpow k)) (fun i _ => (intOf i).toNat)
  case atStart => exact ⟨0, by omega, by simp [← hi, hw], rfl⟩
  case round =>
    obtain ⟨k, hk, rfl, rfl⟩ := hrel
    have hg := gpow_lt k
    by_cases hlt : k < m
    · obtain ⟨j, hj⟩ : ∃ j, m - k = j + 1 := ⟨m - k - 1, by omega⟩
      rw [hj]
      go_wp2_with (go_at_call 59; refine (gmul_s (gpow k) 2 w hg (by omega)).mono ?_; rintro e w1 ⟨rfl, rfl⟩)
      go_round
      case rel => exact ⟨k + 1, by omega, by rw [show m - (k + 1) = j by omega]; try go_num, rfl⟩
      case measure => simp [intOf]; try omega
    · have : k = m := by omega
      subst this
      go_wp2
      go_ret
      exact ⟨rfl, rfl⟩
end Go.Proofs.Ytkdadaocbfbndaa
