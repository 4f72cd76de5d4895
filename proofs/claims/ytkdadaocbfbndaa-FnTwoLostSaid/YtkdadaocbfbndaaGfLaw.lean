/- Products in the field of 256 numbers: their plain laws. -/
import Derived.Test.YtkdadaocbfbndaaGfPow
namespace Go.Proofs.Ytkdadaocbfbndaa
set_option linter.unusedVariables false
open Go.RowKit

theorem x4 (a b c d : Nat) : (a ^^^ b) ^^^ (c ^^^ d) = (a ^^^ c) ^^^ (b ^^^ d) := by
  rw [Nat.xor_assoc, ← Nat.xor_assoc b c d, Nat.xor_comm b c, Nat.xor_assoc c b d, ← Nat.xor_assoc a c]
theorem xt_is {a : Nat} (h : a < 256) : xt a = (a <<< 1) ^^^ (if a >>> 7 = 1 then 285 else 0) := by
  have e : a <<< 1 = 2 * a := by rw [Nat.shiftLeft_eq]; omega
  have e2 : a >>> 7 = a / 128 := Nat.shiftRight_eq_div_pow a 7
  unfold xt
  rw [e, e2]
  by_cases h1 : 255 < 2 * a
  · rw [if_pos h1, if_pos (by omega)]
  · rw [if_neg h1, if_neg (by omega), Nat.xor_zero]
theorem xt_xor {a b : Nat} (ha : a < 256) (hb : b < 256) : xt (a ^^^ b) = xt a ^^^ xt b := by
  have ha7 : a >>> 7 = 0 ∨ a >>> 7 = 1 := by rw [Nat.shiftRight_eq_div_pow]; omega
  have hb7 : b >>> 7 = 0 ∨ b >>> 7 = 1 := by rw [Nat.shiftRight_eq_div_pow]; omega
  rw [xt_is ha, xt_is hb, xt_is (Nat.xor_lt_two_pow (n := 8) ha hb), x4, Nat.shiftLeft_xor_distrib, Nat.shiftRight_xor_distrib]
  congr 1
  rcases ha7 with h1 | h1 <;> rcases hb7 with h2 | h2 <;> rw [h1, h2] <;> rfl
theorem gmul_xor {x y b c d : Nat} (hx : x < 256) (hy : y < 256) : gmul (x ^^^ y) b (c ^^^ d) = gmul x b c ^^^ gmul y b d := by
  induction b using Nat.strongRecOn generalizing x y c d with
  | ind b ih =>
    by_cases h0 : b = 0
    · subst h0; rw [gmul_zero, gmul_zero, gmul_zero]
    · by_cases h : b % 2 = 1
      · rw [gmul_odd h, gmul_odd h, gmul_odd h, xt_xor hx hy, x4, ih _ (by omega) (xt_lt hx) (xt_lt hy)]
      · rw [gmul_even h0 (by omega), gmul_even h0 (by omega), gmul_even h0 (by omega), xt_xor hx hy, ih _ (by omega) (xt_lt hx) (xt_lt hy)]
theorem gmul_lin {x y b : Nat} (hx : x < 256) (hy : y < 256) : gmul (x ^^^ y) b 0 = gmul x b 0 ^^^ gmul y b 0 := by
  have := gmul_xor (b := b) (c := 0) (d := 0) hx hy
  simpa using this
theorem gmul_one (a : Nat) : gmul a 1 0 = a := by
  rw [gmul_odd rfl, gmul_zero]; simp
theorem gmul_of_zero (b c : Nat) : gmul 0 b c = c := by
  induction b using Nat.strongRecOn generalizing c with
  | ind b ih =>
    by_cases h0 : b = 0
    · subst h0; rw [gmul_zero]
    · have hx : xt 0 = 0 := by decide
      by_cases h : b % 2 = 1
      · rw [gmul_odd h, hx, ih _ (by omega)]; simp
      · rw [gmul_even h0 (by omega), hx, ih _ (by omega)]
end Go.Proofs.Ytkdadaocbfbndaa
