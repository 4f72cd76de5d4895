/- The check takes no two texts that differ by one bit for one: plain laws. -/
import Derived.Test.YtkpjjohanbiagaaDoorChain
namespace Go.Proofs.YtkpjjohanbiagaaDoor
set_option linter.unusedVariables false
set_option linter.unusedSimpArgs false
open Go.RowKit
theorem crc_dbl (v v' : Nat) : (v ^^^ v') * 2 % 65536 = (v * 2 % 65536) ^^^ (v' * 2 % 65536) := by
  have h : ∀ x, x * 2 % 65536 = x <<< 1 % 2 ^ 16 := fun x => by rw [Nat.shiftLeft_eq]
  rw [h, h, h, Nat.shiftLeft_xor_distrib, Nat.xor_mod_two_pow]
theorem top_bit {v : Nat} (h : v < 65536) : decide (32768 ≤ v) = v.testBit 15 := by
  rw [testBit_div, Bool.eq_iff_iff]; simp; omega
theorem top_xor {v v' : Nat} (h : v < 65536) (h' : v' < 65536) : decide (32768 ≤ v ^^^ v') = (decide (32768 ≤ v) ^^ decide (32768 ≤ v')) := by
  rw [top_bit h, top_bit h', top_bit (Nat.xor_lt_two_pow (n := 16) h h'), Nat.testBit_xor]
theorem crcBit_xor {v v' : Nat} (b b' : Bool) (h : v < 65536) (h' : v' < 65536) : crcBit v b ^^^ crcBit v' b' = crcBit (v ^^^ v') (b ^^ b') := by
  unfold crcBit
  rw [top_xor h h', crc_dbl]
  generalize v * 2 % 65536 = x
  generalize v' * 2 % 65536 = y
  have e1 : x ^^^ 4129 ^^^ (y ^^^ 4129) = x ^^^ y := by
    rw [Nat.xor_assoc, ← Nat.xor_assoc 4129 y 4129, Nat.xor_comm 4129 y, Nat.xor_assoc y, Nat.xor_self, Nat.xor_zero]
  have e2 : x ^^^ 4129 ^^^ y = x ^^^ y ^^^ 4129 := by rw [Nat.xor_assoc, Nat.xor_comm 4129 y, Nat.xor_assoc]
  have e3 : x ^^^ (y ^^^ 4129) = x ^^^ y ^^^ 4129 := by rw [Nat.xor_assoc]
  cases decide (32768 ≤ v) <;> cases decide (32768 ≤ v') <;> cases b <;> cases b' <;> simp [e1, e2, e3]
theorem crcK_xor {v v' : Nat} (c c' : UInt8) (h : v < 65536) (h' : v' < 65536) : ∀ j, crcK v c j ^^^ crcK v' c' j = crcK (v ^^^ v') (c ^^^ c') j
  | 0 => rfl
  | j + 1 => by
    rw [crcK, crcK, crcK, crcBit_xor _ _ (crcK_lt v c j h) (crcK_lt v' c' j h'), crcK_xor c c' h h' j, UInt8.toNat_xor, Nat.testBit_xor]
theorem crcK_byte : ∀ d : Fin 256, d.val ≠ 0 → crcK 0 (UInt8.ofNat d.val) 8 ≠ 0 := by decide +kernel
theorem crcBit_ne {v : Nat} (h : v < 65536) (h0 : v ≠ 0) : crcBit v false ≠ 0 := by
  unfold crcBit
  by_cases ht : 32768 ≤ v
  · rw [if_pos (by simp [ht])]
    intro e
    have h1 := congrArg (fun n => n.testBit 0) e
    simp only [Nat.testBit_xor, Nat.zero_testBit] at h1
    have h2 : (v * 2 % 65536).testBit 0 = false := by rw [testBit_div]; simp
    rw [h2] at h1
    exact absurd h1 (by decide)
  · rw [if_neg (by simp [ht])]; omega
theorem crcK_ne {v : Nat} (h : v < 65536) (h0 : v ≠ 0) : ∀ j, crcK v 0 j ≠ 0
  | 0 => h0
  | j + 1 => by
    rw [crcK]
    have : ((0 : UInt8).toNat.testBit (7 - j)) = false := by simp
    rw [this]
    exact crcBit_ne (crcK_lt v 0 j h) (crcK_ne h h0 j)
theorem xor_ne {a b : Nat} (h : a ≠ b) : a ^^^ b ≠ 0 := fun e => h (by
  have := congrArg (· ^^^ b) e
  simpa [Nat.xor_assoc] using this)
theorem crcL_ne (l : List UInt8) : ∀ {v v' : Nat}, v < 65536 → v' < 65536 → v ≠ v' → crcL l v ≠ crcL l v' := by
  induction l with
  | nil => intro v v' _ _ h; exact h
  | cons c l ih =>
    intro v v' h h' hne
    refine ih (crcK_lt v c 8 h) (crcK_lt v' c 8 h') fun e => ?_
    have e' : crcK v c 8 = crcK v' c 8 := e
    have h1 := crcK_xor c c h h' 8
    rw [e', Nat.xor_self, UInt8.xor_self] at h1
    exact crcK_ne (Nat.xor_lt_two_pow (n := 16) h h') (xor_ne hne) 8 h1.symm
/-- one byte that is another -/
theorem crcL_byte (p r : List UInt8) {c c' : UInt8} {v : Nat} (h : v < 65536) (hne : c ≠ c') : crcL (p ++ c :: r) v ≠ crcL (p ++ c' :: r) v := by
  have e : ∀ x, crcL (p ++ x :: r) v = crcL r (crcK (crcL p v) x 8) := fun x => by simp [crcL, List.foldl_append]
  rw [e, e]
  refine crcL_ne r (crcK_lt _ _ _ (crcL_lt p v h)) (crcK_lt _ _ _ (crcL_lt p v h)) fun e1 => ?_
  have h1 := crcK_xor c c' (crcL_lt p v h) (crcL_lt p v h) 8
  rw [e1, Nat.xor_self, Nat.xor_self] at h1
  have hd : c ^^^ c' ≠ 0 := fun e => hne (by
    have := congrArg (· ^^^ c') e
    simpa [UInt8.xor_assoc] using this)
  have := crcK_byte ⟨(c ^^^ c').toNat, (c ^^^ c').toNat_lt⟩ (fun e => hd (UInt8.toNat_inj.1 (by simpa using e)))
  exact this (by simpa using h1.symm)
end Go.Proofs.YtkpjjohanbiagaaDoor
