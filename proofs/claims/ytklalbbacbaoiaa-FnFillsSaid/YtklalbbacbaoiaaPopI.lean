/- bits.OnesCount64: the walk; its parity. -/
import Derived.Test.YtklalbbacbaoiaaRowI
import Derived.Test.YtklalbbacbaoiaaPopc
namespace Go.Proofs.Ytklalbbacbaoiaa
set_option linter.unusedVariables false
open Go.RowKit
theorem byA_mul {m : Nat} {p : Nat → Prop} (hp : ∀ a, p a → m * a < 256) : ∀ n x, byA p n x → x < 256 ^ n → m * x < 256 ^ n
  | 0, x, _, h => by have : x = 0 := by simpa using h
                     subst this; simp
  | n + 1, x, h, hx => by
    have hA : x / 256 < 256 ^ n := Nat.div_lt_of_lt_mul (by rw [Nat.pow_succ] at hx; rwa [Nat.mul_comm])
    have h1 := byA_mul hp n (x / 256) h.2 hA
    have h2 := hp _ h.1
    have e : m * x = 256 * (m * (x / 256)) + m * (x % 256) := by
      conv => lhs; rw [← Nat.div_add_mod x 256]
      rw [Nat.mul_add, Nat.mul_left_comm]
    rw [e, Nat.pow_succ]; omega
theorem pop_steps (x : Nat) (hx : x < 18446744073709551616) : ∃ x1 x2 x3 a b c : Nat,
    (x / 2 &&& 6148914691236517205) + (x &&& 6148914691236517205) = x1 ∧ x1 < 18446744073709551616 ∧
    (x1 / 4 &&& 3689348814741910323) + (x1 &&& 3689348814741910323) = x2 ∧ x2 < 18446744073709551616 ∧ x2 / 16 + x2 < 18446744073709551616 ∧
    (x2 / 16 + x2) &&& 1085102592571150095 = x3 ∧ x3 + x3 / 256 = a ∧ a + a / 65536 = b ∧ b + b / 4294967296 = c ∧ x3 < 18446744073709551616 ∧ a < 18446744073709551616 ∧ b < 18446744073709551616 ∧ c < 9223372036854775808 ∧ (c % 2 == 1) = par 64 x := by
  have hx8 : x < 256 ^ 8 := hx
  have r5 : rep 0x55 8 = 6148914691236517205 := by decide
  have r3 : rep 0x33 8 = 3689348814741910323 := by decide
  have rf : rep 0x0f 8 = 1085102592571150095 := by decide
  have g1 : ∀ a, a < 256 → p1 a 0x55 < 256 := fun a h => (p1_byte ⟨0, by omega⟩ ⟨a, h⟩).2
  have g2 : ∀ a, a < 256 → p2 a 0x33 < 256 := fun a h => (p2_byte ⟨0, by omega⟩ ⟨a, h⟩).2
  have l1 : p1 x (rep 0x55 8) < 256 ^ 8 := by rw [p1_by 8 x hx8]; exact byS_lt g1 8 x
  have l2 : p2 (p1 x (rep 0x55 8)) (rep 0x33 8) < 256 ^ 8 := by rw [p2_by 8 _ l1]; exact byS_lt g2 8 _
  have l3 : 3 * p2 (p1 x (rep 0x55 8)) (rep 0x33 8) < 256 ^ 8 := by
    refine byA_mul (p := fun a => a % 16 ≤ 4 ∧ a / 16 ≤ 4) (fun a h => by omega) 8 _ ?_ l2
    rw [p1_by 8 x hx8, p2_by 8 _ (byS_lt g1 8 x), byS_comp g1]
    exact byA_S (fun a h => g2 _ (g1 a h)) (fun a h => ⟨(p12_byte ⟨a, h⟩).1, (p12_byte ⟨a, h⟩).2.1⟩) 8 x
  have hz := pop_by x hx8
  have l4 : 31 * byS popB 8 x < 256 ^ 8 := byA_mul (p := fun a => a ≤ 8) (fun a h => by omega) 8 _ (byA_S (fun a h => by have := (popB_ok a h).1; omega) (fun a h => (popB_ok a h).1) 8 x) (byS_lt (fun a h => by have := (popB_ok a h).1; omega) 8 x)
  obtain ⟨_, s2, s3, s4⟩ := pop_sum x _ _ _ _ rfl rfl rfl rfl
  rw [← hz] at l4 s2 s3 s4
  rw [r5, r3] at l3 l2
  rw [r5] at l1
  rw [r5, r3, rf] at l4 s2 s3 s4
  refine ⟨_, _, _, _, _, _, rfl, l1, rfl, l2, ?_, rfl, rfl, rfl, rfl, ?_, s2, s3, ?_, s4⟩
  · show p2 (p1 x 6148914691236517205) 3689348814741910323 / 16 + p2 (p1 x 6148914691236517205) 3689348814741910323 < _
    omega
  · show p3 (p2 (p1 x 6148914691236517205) 3689348814741910323) 1085102592571150095 < _
    omega
  · show (p3 (p2 (p1 x 6148914691236517205) 3689348814741910323) 1085102592571150095 + p3 (p2 (p1 x 6148914691236517205) 3689348814741910323) 1085102592571150095 / 256) + (p3 (p2 (p1 x 6148914691236517205) 3689348814741910323) 1085102592571150095 + p3 (p2 (p1 x 6148914691236517205) 3689348814741910323) 1085102592571150095 / 256) / 65536 + ((p3 (p2 (p1 x 6148914691236517205) 3689348814741910323) 1085102592571150095 + p3 (p2 (p1 x 6148914691236517205) 3689348814741910323) 1085102592571150095 / 256) + (p3 (p2 (p1 x 6148914691236517205) 3689348814741910323) 1085102592571150095 + p3 (p2 (p1 x 6148914691236517205) 3689348814741910323) 1085102592571150095 / 256) / 65536) / 4294967296 < _
    generalize p3 (p2 (p1 x 6148914691236517205) 3689348814741910323) 1085102592571150095 = z at *
    omega
set_option maxRecDepth 20000 in
set_option maxHeartbeats 2000000 in
theorem pop_i (x : Nat) (hx : x < 18446744073709551616) : ∃ c : Nat, c < 128 ∧ bits .and .i64 (c : Int) 1 = bi (par 64 x) ∧ ∀ w,
    Calls Try.prog 93 #[.int .u64 x] w fun e w' => e = .returned (.int .i64 c) ∧ w = w' := by
  obtain ⟨x1, x2, x3, a, b, c, e1, l1, e2, l2, l22, e3, e4, e5, e6, l3, l4, l5, l6, hp⟩ := pop_steps x hx
  have d1 : (x : Int) / 2 = ((x / 2 : Nat) : Int) := by omega
  have d2 : (x1 : Int) / 4 = ((x1 / 4 : Nat) : Int) := by omega
  have d3 : (x2 : Int) / 16 + (x2 : Int) = ((x2 / 16 + x2 : Nat) : Int) := by omega
  have a1 : bits .and .u64 ((x / 2 : Nat) : Int) 6148914691236517205 = ((x / 2 &&& 6148914691236517205 : Nat) : Int) := u64_and_nat _ 6148914691236517205 (by omega) (by omega)
  have a2 : bits .and .u64 (x : Int) 6148914691236517205 = ((x &&& 6148914691236517205 : Nat) : Int) := u64_and_nat _ 6148914691236517205 (by omega) (by omega)
  have a3 : bits .and .u64 ((x1 / 4 : Nat) : Int) 3689348814741910323 = ((x1 / 4 &&& 3689348814741910323 : Nat) : Int) := u64_and_nat _ 3689348814741910323 (by omega) (by omega)
  have a4 : bits .and .u64 (x1 : Int) 3689348814741910323 = ((x1 &&& 3689348814741910323 : Nat) : Int) := u64_and_nat _ 3689348814741910323 (by omega) (by omega)
  have a5 : bits .and .u64 ((x2 / 16 + x2 : Nat) : Int) 1085102592571150095 = (x3 : Int) := by rw [← e3]; exact u64_and_nat _ 1085102592571150095 (by omega) (by omega)
  have a6 : bits .and .i64 (c : Int) 127 = ((c % 128 : Nat) : Int) := by
    rw [← show c &&& 127 = c % 128 from Nat.and_two_pow_sub_one_eq_mod c 7]
    exact i64_and_nat c 127 (by omega) (by omega)
  have hx1 : ((x / 2 &&& 6148914691236517205 : Nat) : Int) + ((x &&& 6148914691236517205 : Nat) : Int) = (x1 : Int) := by omega
  have hx2 : ((x1 / 4 &&& 3689348814741910323 : Nat) : Int) + ((x1 &&& 3689348814741910323 : Nat) : Int) = (x2 : Int) := by omega
  have ha : (x3 : Int) + (x3 : Int) / 256 = (a : Int) := by omega
  have hb : (a : Int) + (a : Int) / 65536 = (b : Int) := by omega
  have hc : (b : Int) + (b : Int) / 4294967296 = (c : Int) := by omega
  generalize (x / 2 &&& 6148914691236517205) = q1 at *
  generalize (x &&& 6148914691236517205) = q2 at *
  generalize (x1 / 4 &&& 3689348814741910323) = q3 at *
  generalize (x1 &&& 3689348814741910323) = q4 at *
  clear e1 e2 e3 e4 e5 e6
  generalize x / 2 = h1 at *
  generalize x1 / 4 = h2 at *
  generalize x2 / 16 + x2 = h3 at *
  refine ⟨c % 128, by omega, ?_, fun w => ?_⟩
  · have := i64_bit (c % 128) 0 (by omega)
    rw [Int.pow_zero, Int.ediv_one] at this
    rw [this, ← hp]
    congr 1
    rw [Nat.testBit_zero, Nat.mod_mod_of_dvd _ (by decide)]
    rcases Nat.mod_two_eq_zero_or_one c with h | h <;> rw [h] <;> rfl
  go_enter Try.func93, Try.ntmps93
  go_wp2
  go_ret
  trace_state
  exact ⟨rfl, rfl⟩
end Go.Proofs.Ytklalbbacbaoiaa
