/- crc16, impl and spec: the walks; both compute crcL. -/
import Derived.Test.YtkpjjohanbiagaaDoorBits
namespace Go.Proofs.YtkpjjohanbiagaaDoor
set_option linter.unusedVariables false
set_option linter.unusedSimpArgs false
open Go.RowKit

def crcBit (v : Nat) (b : Bool) : Nat := if (decide (32768 ≤ v)) != b then (v * 2 % 65536) ^^^ 4129 else v * 2 % 65536
def crcK (v : Nat) (c : UInt8) : Nat → Nat
  | 0 => v
  | j + 1 => crcBit (crcK v c j) (c.toNat.testBit (7 - j))
def crcL (l : List UInt8) (v : Nat) : Nat := l.foldl (fun v c => crcK v c 8) v

theorem crcBit_lt (v : Nat) (b : Bool) : crcBit v b < 65536 := by
  unfold crcBit
  split
  · exact Nat.xor_lt_two_pow (n := 16) (by omega) (by omega)
  · omega
theorem crcK_lt (v : Nat) (c : UInt8) (j : Nat) (h : v < 65536) : crcK v c j < 65536 := by
  cases j with
  | zero => exact h
  | succ j => exact crcBit_lt _ _
theorem crcL_lt (l : List UInt8) (v : Nat) (h : v < 65536) : crcL l v < 65536 := by
  unfold crcL
  induction l generalizing v with
  | nil => exact h
  | cons c l ih => exact ih _ (crcK_lt v c 8 h)
theorem crcL_snoc (l : List UInt8) (c : UInt8) (v : Nat) : crcL (l ++ [c]) v = crcK (crcL l v) c 8 := by simp [crcL, List.foldl_append]
theorem take_snoc (s : ByteArray) (k : Nat) (h : k < s.size) : s.data.toList.take (k + 1) = s.data.toList.take k ++ [s[k]] := by
  rw [List.take_succ_eq_append_getElem (by simpa using h)]; rfl
theorem crc_next (s : ByteArray) (k v x y : Nat) (h : k < s.size) (H : Hid (crcL (s.data.toList.take k) v = x)) (J : Hid (crcK x s[k] 8 = y)) : Hid (crcL (s.data.toList.take (k + 1)) v = y) :=
  Lib.hid (by rw [take_snoc s k h, crcL_snoc, H.out, J.out])
theorem crc_bit (c : UInt8) (j : Nat) : wrap64 (bits BinOp.and IntKind.u8 ((c.toNat : Int) / 2 ^ (7 - j)) 1) = if c.toNat.testBit (7 - j) then 1 else 0 := by
  have h1 : ((c.toNat : Int) / 2 ^ (7 - j)) = ((c.toNat / 2 ^ (7 - j) : Nat) : Int) := by simp
  have h2 : c.toNat / 2 ^ (7 - j) < 256 := Nat.lt_of_le_of_lt (Nat.div_le_self _ _) (byte_lt c)
  rw [h1, u8_and_one _ h2, wrap64_nat _ (by omega), testBit_div]
  rcases Nat.mod_two_eq_zero_or_one (c.toNat / 2 ^ (7 - j)) with e | e <;> simp [e]
theorem crc_lost (y : Nat) (hy : y < 65536) : ((y : Int) / 32768) = if 32768 ≤ y then 1 else 0 := by split <;> omega
theorem crc_and (y : Nat) (hy : y < 65536) : bits BinOp.and IntKind.i64 ((y : Int) * 2) 65535 = ((y * 2 % 65536 : Nat) : Int) := by
  have := i64_and_nat (y * 2) 65535 (by omega) (by omega)
  rw [nat_mask16] at this
  rw [← this]; congr 1
theorem crc_xor (y : Nat) (hy : y < 65536) : bits BinOp.xor IntKind.i64 (y : Int) 4129 = ((y ^^^ 4129 : Nat) : Int) := i64_xor_nat y 4129 (by omega) (by omega)
theorem crc_yes (c : UInt8) (y j : Nat) (hy : y < 65536) (h : ((y : Int) / 32768 != wrap64 (bits BinOp.and IntKind.u8 ((c.toNat : Int) / 2 ^ (7 - j)) 1)) = true) :
    bits BinOp.xor IntKind.i64 (bits BinOp.and IntKind.i64 ((y : Int) * 2) 65535) 4129 = ((crcBit y (c.toNat.testBit (7 - j)) : Nat) : Int) := by
  rw [crc_bit, crc_lost y hy] at h
  rw [crc_and y hy, crc_xor _ (by omega)]
  unfold crcBit
  rw [if_pos]
  cases hb : c.toNat.testBit (7 - j) <;> simp [hb] at h ⊢ <;> omega
theorem crc_no (c : UInt8) (y j : Nat) (hy : y < 65536) (h : ((y : Int) / 32768 != wrap64 (bits BinOp.and IntKind.u8 ((c.toNat : Int) / 2 ^ (7 - j)) 1)) = false) :
    bits BinOp.and IntKind.i64 ((y : Int) * 2) 65535 = ((crcBit y (c.toNat.testBit (7 - j)) : Nat) : Int) := by
  rw [crc_bit, crc_lost y hy] at h
  rw [crc_and y hy]
  unfold crcBit
  rw [if_neg]
  cases hb : c.toNat.testBit (7 - j) <;> simp [hb] at h ⊢ <;> omega
theorem crcK_next (x : Nat) (c : UInt8) (j y : Nat) (H : Hid (crcK x c j = y)) : Hid (crcK x c (j + 1) = crcBit y (c.toNat.testBit (7 - j))) :=
  Lib.hid (by rw [crcK, H.out])

set_option maxHeartbeats 1000000 in
theorem crc_i (s : ByteArray) (v : Nat) (w : World) (hs : s.size ≤ 2097152) (hv : v < 65536) :
    Calls Tryd.prog 70 #[.string s, .int .i64 v] w fun e w' => e = .returned (.int .i64 (crcL s.data.toList v)) ∧ w = w' := by
  go_enter Tryd.func70, Tryd.ntmps70
  go_wp2
  go_loop [10, 1] (fun i n => ∃ k x : Nat, k ≤ s.size ∧ i = .int .i64 k ∧ n = .int .i64 x ∧ x < 65536 ∧ Hid (crcL (s.data.toList.take k) v = x)) (fun i _ => s.size - (intOf i).toNat)
  case atStart => exact ⟨0, v, by omega, rfl, rfl, hv, Lib.hid rfl⟩
  case round =>
    obtain ⟨k, x, hk, rfl, rfl, hx, HK⟩ := hrel
    by_cases hlt : k < s.size
    · go_wp2
      go_loop [6, 1] (fun i n => ∃ j y : Nat, j ≤ 8 ∧ i = .int .i64 (7 - (j : Int)) ∧ n = .int .i64 y ∧ y < 65536 ∧ Hid (crcK x s[k] j = y)) (fun i _ => (intOf i + 1).toNat)
      case atStart => exact ⟨0, x, by omega, rfl, rfl, hx, Lib.hid rfl⟩
      case round =>
        obtain ⟨j, y, hj, rfl, rfl, hy, HJ⟩ := hrel
        by_cases hj8 : j < 8
        · go_wp2
          · have ht : ((y : Int) / 32768 != wrap64 (bits BinOp.and IntKind.u8 ((s[k].toNat : Int) / 2 ^ (7 - j)) 1)) = true := by assumption
            go_round
            case rel => exact ⟨j + 1, _, by omega, by congr 1; omega, by rw [crc_yes _ _ _ hy ht], crcBit_lt _ _, crcK_next _ _ _ _ HJ⟩
            case measure => simp [intOf]; omega
          · have ht : ((y : Int) / 32768 != wrap64 (bits BinOp.and IntKind.u8 ((s[k].toNat : Int) / 2 ^ (7 - j)) 1)) = false := by assumption
            go_round
            case rel => exact ⟨j + 1, _, by omega, by congr 1; omega, by rw [crc_no _ _ _ hy ht], crcBit_lt _ _, crcK_next _ _ _ _ HJ⟩
            case measure => simp [intOf]; omega
        · obtain rfl : j = 8 := by omega
          go_wp2
          go_round
          case rel => exact ⟨k + 1, y, by omega, by go_num, rfl, hy, crc_next s k v x y hlt HK HJ⟩
          case measure => simp [intOf]; omega
    · go_wp2
      go_ret
      exact ⟨ret_int (by rw [← HK.out, List.take_of_length_le (by rw [data_len]; omega)]), rfl⟩

/-! the reference's -/
theorem crc_bit_s (c : UInt8) (j : Nat) : bits BinOp.and IntKind.i64 (wrap64 ((c.toNat : Int) / 2 ^ (7 - j))) 1 = if c.toNat.testBit (7 - j) then 1 else 0 := by
  have h1 : ((c.toNat : Int) / 2 ^ (7 - j)) = ((c.toNat / 2 ^ (7 - j) : Nat) : Int) := by simp
  have h2 : c.toNat / 2 ^ (7 - j) < 256 := Nat.lt_of_le_of_lt (Nat.div_le_self _ _) (byte_lt c)
  have h3 := i64_and_nat (c.toNat / 2 ^ (7 - j)) 1 (by omega) (by omega)
  rw [nat_mask1] at h3
  rw [h1, wrap64_nat _ (by omega)]
  refine Eq.trans h3 ?_
  rw [testBit_div]
  rcases Nat.mod_two_eq_zero_or_one (c.toNat / 2 ^ (7 - j)) with e | e <;> simp [e]
theorem crc_lost_s (y : Nat) (hy : y < 65536) : bits BinOp.and IntKind.i64 ((y : Int) / 32768) 1 = if 32768 ≤ y then 1 else 0 := by
  have h3 := i64_and_nat (y / 32768) 1 (by omega) (by omega)
  rw [nat_mask1] at h3
  have h1 : ((y : Int) / 32768) = ((y / 32768 : Nat) : Int) := by simp
  rw [h1]
  refine Eq.trans h3 ?_
  split <;> omega
theorem crc_yes_s (c : UInt8) (y j : Nat) (hy : y < 65536) (h : (bits BinOp.and IntKind.i64 ((y : Int) / 32768) 1 != bits BinOp.and IntKind.i64 (wrap64 ((c.toNat : Int) / 2 ^ (7 - j))) 1) = true) :
    bits BinOp.xor IntKind.i64 (bits BinOp.and IntKind.i64 ((y : Int) * 2) 65535) 4129 = ((crcBit y (c.toNat.testBit (7 - j)) : Nat) : Int) := by
  rw [crc_bit_s, crc_lost_s y hy] at h
  rw [crc_and y hy, crc_xor _ (by omega)]
  unfold crcBit
  rw [if_pos]
  cases hb : c.toNat.testBit (7 - j) <;> simp [hb] at h ⊢ <;> omega
theorem crc_no_s (c : UInt8) (y j : Nat) (hy : y < 65536) (h : (bits BinOp.and IntKind.i64 ((y : Int) / 32768) 1 != bits BinOp.and IntKind.i64 (wrap64 ((c.toNat : Int) / 2 ^ (7 - j))) 1) = false) :
    bits BinOp.and IntKind.i64 ((y : Int) * 2) 65535 = ((crcBit y (c.toNat.testBit (7 - j)) : Nat) : Int) := by
  rw [crc_bit_s, crc_lost_s y hy] at h
  rw [crc_and y hy]
  unfold crcBit
  rw [if_neg]
  cases hb : c.toNat.testBit (7 - j) <;> simp [hb] at h ⊢ <;> omega
set_option maxHeartbeats 1000000 in
theorem crc_s (s : ByteArray) (v : Nat) (w : World) (hs : s.size ≤ 2097152) (hv : v < 65536) :
    Calls Tryd.prog 97 #[.string s, .int .i64 v] w fun e w' => e = .returned (.int .i64 (crcL s.data.toList v)) ∧ w = w' := by
  go_enter Tryd.func97, Tryd.ntmps97
  go_wp2
  go_loop [6, 5] (fun i n => ∃ k x : Nat, k ≤ s.size ∧ i = .int .i64 k ∧ n = .int .i64 x ∧ x < 65536 ∧ Hid (crcL (s.data.toList.take k) v = x)) (fun i _ => s.size - (intOf i).toNat)
  case atStart => exact ⟨0, v, by omega, rfl, rfl, hv, Lib.hid rfl⟩
  case round =>
    obtain ⟨k, x, hk, rfl, rfl, hx, HK⟩ := hrel
    by_cases hlt : k < s.size
    · go_wp2
      go_loop [7, 5] (fun i n => ∃ j y : Nat, j ≤ 8 ∧ i = .int .i64 (7 - (j : Int)) ∧ n = .int .i64 y ∧ y < 65536 ∧ Hid (crcK x s[k] j = y)) (fun i _ => (intOf i + 1).toNat)
      case atStart => exact ⟨0, x, by omega, rfl, rfl, hx, Lib.hid rfl⟩
      case round =>
        obtain ⟨j, y, hj, rfl, rfl, hy, HJ⟩ := hrel
        by_cases hj8 : j < 8
        · go_wp2
          · have ht : (bits BinOp.and IntKind.i64 ((y : Int) / 32768) 1 != bits BinOp.and IntKind.i64 (wrap64 ((s[k].toNat : Int) / 2 ^ (7 - j))) 1) = true := by assumption
            go_round
            case rel => exact ⟨j + 1, _, by omega, by congr 1; omega, by rw [crc_yes_s _ _ _ hy ht], crcBit_lt _ _, crcK_next _ _ _ _ HJ⟩
            case measure => simp [intOf]; omega
          · have ht : (bits BinOp.and IntKind.i64 ((y : Int) / 32768) 1 != bits BinOp.and IntKind.i64 (wrap64 ((s[k].toNat : Int) / 2 ^ (7 - j))) 1) = false := by assumption
            go_round
            case rel => exact ⟨j + 1, _, by omega, by congr 1; omega, by rw [crc_no_s _ _ _ hy ht], crcBit_lt _ _, crcK_next _ _ _ _ HJ⟩
            case measure => simp [intOf]; omega
        · obtain rfl : j = 8 := by omega
          go_wp2
          go_round
          case rel => exact ⟨k + 1, y, by omega, by go_num, rfl, hy, crc_next s k v x y hlt HK HJ⟩
          case measure => simp [intOf]; omega
    · go_wp2
      go_ret
      exact ⟨ret_int (by rw [← HK.out, List.take_of_length_le (by rw [data_len]; omega)]), rfl⟩

/-- the check value from CrcStart on -/
def crcB (s : ByteArray) : Nat := crcL s.data.toList 65535
theorem crcB_lt (s : ByteArray) : crcB s < 65536 := crcL_lt _ _ (by omega)
theorem crcS_i (s : ByteArray) (w : World) (hs : s.size ≤ 2097152) : Calls Tryd.prog 70 #[.string s, .int .i64 65535] w fun e w' => e = .returned (.int .i64 (crcB s)) ∧ w = w' :=
  crc_i s 65535 w hs (by omega)
theorem crcS_s (s : ByteArray) (w : World) (hs : s.size ≤ 2097152) : Calls Tryd.prog 97 #[.string s, .int .i64 65535] w fun e w' => e = .returned (.int .i64 (crcB s)) ∧ w = w' :=
  crc_s s 65535 w hs (by omega)
end Go.Proofs.YtkpjjohanbiagaaDoor
