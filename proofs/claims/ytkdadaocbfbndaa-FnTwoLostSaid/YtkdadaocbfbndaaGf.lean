/- Products in the field of 256 numbers, impl and spec: the walks. -/
import Derived.Test.YtkdadaocbfbndaaBits
namespace Go.Proofs.Ytkdadaocbfbndaa
set_option linter.unusedVariables false
open Go.RowKit

def xt (a : Nat) : Nat := if 255 < 2 * a then (2 * a) ^^^ 285 else 2 * a
theorem xt_lt {a : Nat} (h : a < 256) : xt a < 256 := by
  have : ∀ a : Fin 256, xt a.1 < 256 := by decide +kernel
  exact this ⟨a, h⟩
def gmul (a b acc : Nat) : Nat := if b = 0 then acc else gmul (xt a) (b / 2) (if b % 2 = 1 then acc ^^^ a else acc)
  termination_by b
  decreasing_by omega
theorem gmul_zero (a acc : Nat) : gmul a 0 acc = acc := by rw [gmul]; simp
theorem gmul_odd {a b acc : Nat} (h : b % 2 = 1) : gmul a b acc = gmul (xt a) (b / 2) (acc ^^^ a) := by
  rw [gmul, if_neg (by omega), if_pos h]
theorem gmul_even {a b acc : Nat} (h0 : b ≠ 0) (h : b % 2 = 0) : gmul a b acc = gmul (xt a) (b / 2) acc := by
  rw [gmul, if_neg h0, if_neg (by omega)]
theorem gmul_lt {a b acc : Nat} (ha : a < 256) (hc : acc < 256) : gmul a b acc < 256 := by
  induction b using Nat.strongRecOn generalizing a acc with
  | ind b ih =>
    by_cases h0 : b = 0
    · subst h0; rw [gmul_zero]; exact hc
    · by_cases h : b % 2 = 1
      · rw [gmul_odd h]; exact ih _ (by omega) (xt_lt ha) (Nat.xor_lt_two_pow (n := 8) hc ha)
      · rw [gmul_even h0 (by omega)]; exact ih _ (by omega) (xt_lt ha) hc
set_option maxRecDepth 20000 in
set_option maxHeartbeats 1000000 in
theorem gmul_s (a b : Nat) (w : World) (ha : a < 256) (hb : b < 256) :
    Calls Try.prog 59 #[.int .i64 a, .int .i64 b] w fun e w' => e = .returned (.int .i64 ((gmul a b 0 : Nat) : Int)) ∧ w = w' := by
  go_enter Try.func59, Try.ntmps59
  go_wp2
  go_loop [0, 1, 5] (fun x y z => ∃ p q r : Nat, x = .int .i64 p ∧ y = .int .i64 q ∧ z = .int .i64 r ∧ p < 256 ∧ q < 256 ∧ r < 256 ∧ Hid (gmul a b 0 = gmul p q r)) (fun _ y _ => (intOf y).toNat)
  case atStart => exact ⟨a, b, 0, rfl, rfl, rfl, ha, hb, by omega, Lib.hid rfl⟩
  case round =>
    obtain ⟨p, q, r, rfl, rfl, rfl, hp, hq, hr, HK⟩ := hrel
    have x1 := i64_xor_nat r p (by omega) (by omega)
    by_cases hq0 : q = 0
    · subst hq0
      go_wp2
      go_ret
      refine ⟨?_, rfl⟩
      rw [HK.out, gmul_zero]; rfl
    · have hqp : 0 < q := by omega
      by_cases hp1 : 256 ≤ p * 2
      · have hpi : decide ((256 : Int) ≤ (p : Int) * 2) = true := by simp; omega
        have hx : xt p = (p * 2) ^^^ 285 := by unfold xt; rw [if_pos (by omega), Nat.mul_comm]
        have x2 : bits BinOp.xor IntKind.i64 ((p : Int) * 2) 285 = ((xt p : Nat) : Int) := by rw [hx]; exact i64_xor_nat (p * 2) 285 (by omega) (by omega)
        clear hx
        by_cases hq1 : q % 2 = 1
        · have HN := Lib.hid (gmul_odd (a := p) (acc := r) hq1)
          have hqi : ((q : Int) % 2 == 1) = true := by simp; omega
          clear hq1
          go_wp2
          go_round
          case rel => exact ⟨xt p, q / 2, r ^^^ p, rfl, by go_num, rfl, xt_lt hp, by omega, Nat.xor_lt_two_pow (n := 8) hr hp, Lib.hid (HK.out.trans HN.out)⟩
          case measure => simp [intOf]; omega
        · have HN := Lib.hid (gmul_even (a := p) (acc := r) hq0 (by omega))
          have hqi : ((q : Int) % 2 == 1) = false := by simp; omega
          clear hq1
          go_wp2
          go_round
          case rel => exact ⟨xt p, q / 2, r, rfl, by go_num, rfl, xt_lt hp, by omega, hr, Lib.hid (HK.out.trans HN.out)⟩
          case measure => simp [intOf]; omega
      · have hpi : decide ((256 : Int) ≤ (p : Int) * 2) = false := by simp; omega
        have hx : xt p = p * 2 := by unfold xt; rw [if_neg (by omega), Nat.mul_comm]
        by_cases hq1 : q % 2 = 1
        · have HN := Lib.hid (gmul_odd (a := p) (acc := r) hq1)
          have hqi : ((q : Int) % 2 == 1) = true := by simp; omega
          clear hq1
          go_wp2
          go_round
          case rel => exact ⟨xt p, q / 2, r ^^^ p, by rw [hx]; go_num, by go_num, rfl, xt_lt hp, by omega, Nat.xor_lt_two_pow (n := 8) hr hp, Lib.hid (HK.out.trans HN.out)⟩
          case measure => simp [intOf]; omega
        · have HN := Lib.hid (gmul_even (a := p) (acc := r) hq0 (by omega))
          have hqi : ((q : Int) % 2 == 1) = false := by simp; omega
          clear hq1
          go_wp2
          go_round
          case rel => exact ⟨xt p, q / 2, r, by rw [hx]; go_num, by go_num, rfl, xt_lt hp, by omega, hr, Lib.hid (HK.out.trans HN.out)⟩
          case measure => simp [intOf]; omega
set_option maxRecDepth 20000 in
set_option maxHeartbeats 1000000 in
theorem gmul_i (a b : Nat) (w : World) (ha : a < 256) (hb : b < 256) :
    Calls Try.prog 62 #[.int .i64 a, .int .i64 b] w fun e w' => e = .returned (.int .i64 ((gmul a b 0 : Nat) : Int)) ∧ w = w' := by
  go_enter Try.func62, Try.ntmps62
  go_wp2
  go_loop [0, 1, 5] (fun x y z => ∃ p q r : Nat, x = .int .i64 p ∧ y = .int .i64 q ∧ z = .int .i64 r ∧ p < 256 ∧ q < 256 ∧ r < 256 ∧ Hid (gmul a b 0 = gmul p q r)) (fun _ y _ => (intOf y).toNat)
  case atStart => exact ⟨a, b, 0, rfl, rfl, rfl, ha, hb, by omega, Lib.hid rfl⟩
  case round =>
    obtain ⟨p, q, r, rfl, rfl, rfl, hp, hq, hr, HK⟩ := hrel
    have x1 := i64_xor_nat r p (by omega) (by omega)
    have x4 : bits BinOp.and IntKind.i64 (q : Int) 1 = ((q % 2 : Nat) : Int) := by have := i64_and_nat q 1 (by omega) (by omega); rw [Nat.and_one_is_mod] at this; exact this
    by_cases hq0 : q = 0
    · subst hq0
      go_wp2
      go_ret
      refine ⟨?_, rfl⟩
      rw [HK.out, gmul_zero]; rfl
    · have hqp : 0 < q := by omega
      by_cases hp1 : 256 ≤ p * 2
      · have hpi : decide ((255 : Int) < (p : Int) * 2) = true := by simp; omega
        have hx : xt p = (p * 2) ^^^ 285 := by unfold xt; rw [if_pos (by omega), Nat.mul_comm]
        have x2 : bits BinOp.xor IntKind.i64 ((p : Int) * 2) 285 = ((xt p : Nat) : Int) := by rw [hx]; exact i64_xor_nat (p * 2) 285 (by omega) (by omega)
        clear hx
        by_cases hq1 : q % 2 = 1
        · have HN := Lib.hid (gmul_odd (a := p) (acc := r) hq1)
          have hqi : (((q % 2 : Nat) : Int) == 1) = true := by simp; omega
          clear hq1
          go_wp2
          go_round
          case rel => exact ⟨xt p, q / 2, r ^^^ p, rfl, by go_num, rfl, xt_lt hp, by omega, Nat.xor_lt_two_pow (n := 8) hr hp, Lib.hid (HK.out.trans HN.out)⟩
          case measure => simp [intOf]; omega
        · have HN := Lib.hid (gmul_even (a := p) (acc := r) hq0 (by omega))
          have hqi : (((q % 2 : Nat) : Int) == 1) = false := by simp; omega
          clear hq1
          go_wp2
          go_round
          case rel => exact ⟨xt p, q / 2, r, rfl, by go_num, rfl, xt_lt hp, by omega, hr, Lib.hid (HK.out.trans HN.out)⟩
          case measure => simp [intOf]; omega
      · have hpi : decide ((255 : Int) < (p : Int) * 2) = false := by simp; omega
        have hx : xt p = p * 2 := by unfold xt; rw [if_neg (by omega), Nat.mul_comm]
        by_cases hq1 : q % 2 = 1
        · have HN := Lib.hid (gmul_odd (a := p) (acc := r) hq1)
          have hqi : (((q % 2 : Nat) : Int) == 1) = true := by simp; omega
          clear hq1
          go_wp2
          go_round
          case rel => exact ⟨xt p, q / 2, r ^^^ p, by rw [hx]; go_num, by go_num, rfl, xt_lt hp, by omega, Nat.xor_lt_two_pow (n := 8) hr hp, Lib.hid (HK.out.trans HN.out)⟩
          case measure => simp [intOf]; omega
        · have HN := Lib.hid (gmul_even (a := p) (acc := r) hq0 (by omega))
          have hqi : (((q % 2 : Nat) : Int) == 1) = false := by simp; omega
          clear hq1
          go_wp2
          go_round
          case rel => exact ⟨xt p, q / 2, r, by rw [hx]; go_num, by go_num, rfl, xt_lt hp, by omega, hr, Lib.hid (HK.out.trans HN.out)⟩
          case measure => simp [intOf]; omega
end Go.Proofs.Ytkdadaocbfbndaa
