/- The field of 256 numbers: no divisors of zero, powers of 2 differ. Plain laws. -/
import Derived.Test.YtkdadaocbfbndaaGfLaw
namespace Go.Proofs.Ytkdadaocbfbndaa
set_option linter.unusedVariables false
open Go.RowKit

def gmS : Nat → Nat → Nat → Nat → Nat
  | 0, _, _, acc => acc
  | n + 1, a, b, acc => gmS n (xt a) (b / 2) (if b % 2 = 1 then acc ^^^ a else acc)
theorem gmul_S {n a b acc : Nat} (h : b < 2 ^ n) : gmul a b acc = gmS n a b acc := by
  induction n generalizing a b acc with
  | zero =>
    obtain rfl : b = 0 := by simpa using h
    rw [gmul_zero]; rfl
  | succ n ih =>
    have h2 : b / 2 < 2 ^ n := by rw [Nat.pow_succ] at h; omega
    by_cases h0 : b = 0
    · subst h0
      have := ih (a := xt a) (acc := acc) (b := 0) (Nat.two_pow_pos n)
      rw [gmul_zero] at this ⊢
      rw [gmS]; exact this
    · by_cases h1 : b % 2 = 1
      · rw [gmul_odd h1, ih h2, gmS, if_pos h1]
      · rw [gmul_even h0 (by omega), ih h2, gmS, if_neg h1]
def xtI : Nat → Nat → Nat
  | 0, a => a
  | k + 1, a => xt (xtI k a)
theorem xtI_lt {k a : Nat} (h : a < 256) : xtI k a < 256 := by
  induction k with
  | zero => exact h
  | succ k ih => exact xt_lt ih
theorem gmul_xt {a b acc : Nat} (ha : a < 256) (hc : acc < 256) : gmul (xt a) b (xt acc) = xt (gmul a b acc) := by
  induction b using Nat.strongRecOn generalizing a acc with
  | ind b ih =>
    by_cases h0 : b = 0
    · subst h0; rw [gmul_zero, gmul_zero]
    · by_cases h : b % 2 = 1
      · rw [gmul_odd h, gmul_odd h, ← xt_xor hc ha, ih _ (by omega) (xt_lt ha) (Nat.xor_lt_two_pow (n := 8) hc ha)]
      · rw [gmul_even h0 (by omega), gmul_even h0 (by omega), ih _ (by omega) (xt_lt ha) hc]
theorem one_gmul {b : Nat} (h : b < 256) : gmul 1 b 0 = b := by
  have : ∀ b : Fin 256, gmS 8 1 b.1 0 = b.1 := by decide +kernel
  rw [gmul_S (n := 8) h]; exact this ⟨b, h⟩
theorem gmul_pow {k b : Nat} (h : b < 256) : gmul (xtI k 1) b 0 = xtI k b := by
  induction k with
  | zero => exact one_gmul h
  | succ k ih =>
    have := gmul_xt (a := xtI k 1) (b := b) (acc := 0) (xtI_lt (by omega)) (by omega)
    rw [show xt 0 = 0 by decide] at this
    rw [xtI, this, ih, xtI]
theorem xt_ne {a : Nat} (h : a < 256) (h0 : a ≠ 0) : xt a ≠ 0 := by
  have : ∀ a : Fin 256, a.1 ≠ 0 → xt a.1 ≠ 0 := by decide +kernel
  exact this ⟨a, h⟩ h0
theorem xtI_ne {k a : Nat} (h : a < 256) (h0 : a ≠ 0) : xtI k a ≠ 0 := by
  induction k with
  | zero => exact h0
  | succ k ih => exact xt_ne (xtI_lt h) ih
theorem gmul_two {a : Nat} : gmul a 2 0 = xt a := by
  rw [gmul_even (by omega) (by omega), gmul_odd (by omega), gmul_zero, Nat.zero_xor]
theorem gpow_I (k : Nat) : gpow k = xtI k 1 := by
  induction k with
  | zero => rfl
  | succ k ih => rw [gpow, gmul_two, ih, xtI]
/-- the logarithms -/
def lg : List Nat := [0, 0, 1, 25, 2, 50, 26, 198, 3, 223, 51, 238, 27, 104, 199, 75, 4, 100, 224, 14, 52, 141, 239, 129, 28, 193, 105, 248, 200, 8, 76, 113, 5, 138, 101, 47, 225, 36, 15, 33, 53, 147, 142, 218, 240, 18, 130, 69, 29, 181, 194, 125, 106, 39, 249, 185, 201, 154, 9, 120, 77, 228, 114, 166, 6, 191, 139, 98, 102, 221, 48, 253, 226, 152, 37, 179, 16, 145, 34, 136, 54, 208, 148, 206, 143, 150, 219, 189, 241, 210, 19, 92, 131, 56, 70, 64, 30, 66, 182, 163, 195, 72, 126, 110, 107, 58, 40, 84, 250, 133, 186, 61, 202, 94, 155, 159, 10, 21, 121, 43, 78, 212, 229, 172, 115, 243, 167, 87, 7, 112, 192, 247, 140, 128, 99, 13, 103, 74, 222, 237, 49, 197, 254, 24, 227, 165, 153, 119, 38, 184, 180, 124, 17, 68, 146, 217, 35, 32, 137, 46, 55, 63, 209, 91, 149, 188, 207, 205, 144, 135, 151, 178, 220, 252, 190, 97, 242, 86, 211, 171, 20, 42, 93, 158, 132, 60, 57, 83, 71, 109, 65, 162, 31, 45, 67, 216, 183, 123, 164, 118, 196, 23, 73, 236, 127, 12, 111, 246, 108, 161, 59, 82, 41, 157, 85, 170, 251, 96, 134, 177, 187, 204, 62, 90, 203, 89, 95, 176, 156, 169, 160, 81, 11, 245, 22, 235, 122, 117, 44, 215, 79, 174, 213, 233, 230, 231, 173, 232, 116, 214, 244, 234, 168, 80, 88, 175]
theorem lg_of {a : Nat} (h : a < 256) (h0 : a ≠ 0) : xtI (lg.getD a 0) 1 = a := by
  have : ∀ a : Fin 256, a.1 ≠ 0 → xtI (lg.getD a.1 0) 1 = a.1 := by decide +kernel
  exact this ⟨a, h⟩ h0
theorem lg_pow {k : Nat} (h : k < 255) : lg.getD (xtI k 1) 0 = k := by
  have : ∀ k : Fin 255, lg.getD (xtI k.1 1) 0 = k.1 := by decide +kernel
  exact this ⟨k, h⟩
theorem gmul_ne {a b : Nat} (ha : a < 256) (hb : b < 256) (ha0 : a ≠ 0) (hb0 : b ≠ 0) : gmul a b 0 ≠ 0 := by
  rw [← lg_of ha ha0, gmul_pow hb]
  exact xtI_ne hb hb0
theorem gpow_inj {i j : Nat} (hi : i < 255) (hj : j < 255) (h : gpow i = gpow j) : i = j := by
  rw [gpow_I, gpow_I] at h
  rw [← lg_pow hi, ← lg_pow hj, h]
theorem gpow_ne (k : Nat) : gpow k ≠ 0 := by
  rw [gpow_I]; exact xtI_ne (by omega) (by omega)
theorem xor_div2 (b c : Nat) : (b ^^^ c) / 2 = b / 2 ^^^ c / 2 := by
  have h : ∀ z : Nat, z / 2 = z >>> 1 := fun z => by rw [Nat.shiftRight_eq_div_pow]
  rw [h, h, h, Nat.shiftRight_xor_distrib]
theorem xor_mod2 (b c : Nat) : (b ^^^ c) % 2 = (b % 2) ^^^ (c % 2) := Nat.xor_mod_two_pow (n := 1)
theorem gmS_right {n a b c x y : Nat} : gmS n a (b ^^^ c) (x ^^^ y) = gmS n a b x ^^^ gmS n a c y := by
  induction n generalizing a b c x y with
  | zero => rfl
  | succ n ih =>
    have h1 := xor_mod2 b c
    have e : (if (b ^^^ c) % 2 = 1 then (x ^^^ y) ^^^ a else x ^^^ y) = (if b % 2 = 1 then x ^^^ a else x) ^^^ (if c % 2 = 1 then y ^^^ a else y) := by
      rcases Nat.mod_two_eq_zero_or_one b with hb | hb <;> rcases Nat.mod_two_eq_zero_or_one c with hc | hc <;> rw [h1, hb, hc]
      · rfl
      · show (x ^^^ y) ^^^ a = x ^^^ (y ^^^ a)
        rw [Nat.xor_assoc]
      · show (x ^^^ y) ^^^ a = (x ^^^ a) ^^^ y
        rw [Nat.xor_assoc, Nat.xor_comm y a, ← Nat.xor_assoc]
      · show x ^^^ y = (x ^^^ a) ^^^ (y ^^^ a)
        rw [x4, Nat.xor_self, Nat.xor_zero]
    rw [gmS, gmS, gmS, e, xor_div2, ih]
theorem gmul_right {a b c : Nat} (hb : b < 256) (hc : c < 256) : gmul a (b ^^^ c) 0 = gmul a b 0 ^^^ gmul a c 0 := by
  rw [gmul_S (n := 8) (Nat.xor_lt_two_pow (n := 8) hb hc), gmul_S (n := 8) hb, gmul_S (n := 8) hc, ← gmS_right]
  rfl
theorem gmul_inj {a b c : Nat} (ha : a < 256) (ha0 : a ≠ 0) (hb : b < 256) (hc : c < 256) (h : gmul a b 0 = gmul a c 0) : b = c := by
  by_cases hbc : b ^^^ c = 0
  · have e : (b ^^^ c) ^^^ c = 0 ^^^ c := by rw [hbc]
    rwa [Nat.xor_assoc, Nat.xor_self, Nat.xor_zero, Nat.zero_xor] at e
  · exfalso
    apply gmul_ne ha (Nat.xor_lt_two_pow (n := 8) hb hc) ha0 hbc
    rw [gmul_right hb hc, h, Nat.xor_self]
end Go.Proofs.Ytkdadaocbfbndaa
