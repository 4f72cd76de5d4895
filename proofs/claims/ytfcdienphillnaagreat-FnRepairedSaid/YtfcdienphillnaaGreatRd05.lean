/- crc16, impl and spec: the walks; both compute crcL. The check value is linear: plain laws. flipped, crcEffect, l25Flip, l25Effect: the walks. Equations over two values: the solutions of a list of them, what a solved list is, and how many rows it has. Plain Lean, no program. -/
import Derived.Test.YtfcdienphillnaaGreatRd01
import Derived.Test.YtfcdienphillnaaGreatRd02
import Derived.Test.YtfcdienphillnaaGreatRd03
namespace Go.Proofs.YtfcdienphillnaaGreat
set_option linter.unusedVariables false
set_option linter.unusedSimpArgs false
open Go.RowKit

def crcBit (v : Nat) (b : Bool) : Nat := if (decide (32768 ≤ v)) != b then (v * 2 % 65536) ^^^ 4129 else v * 2 % 65536
def crcK (v : Nat) (c : UInt8) : Nat → Nat
  | 0 => v
  | j + 1 => crcBit (crcK v c j) (c.toNat.testBit (7 - j))
def crcL (l : List UInt8) (v : Nat) : Nat := l.foldl (fun v c => crcK v c 8) v

theorem crcBit_lt (v : Nat) (b : Bool) : crcBit v b < 65536 := by
  unfold crcBit
  split
  · exact Nat.xor_lt_two_pow (n := 16) (by omega) (by omega)
  · omega
theorem crcK_lt (v : Nat) (c : UInt8) (j : Nat) (h : v < 65536) : crcK v c j < 65536 := by
  cases j with
  | zero => exact h
  | succ j => exact crcBit_lt _ _
theorem crcL_lt (l : List UInt8) (v : Nat) (h : v < 65536) : crcL l v < 65536 := by
  unfold crcL
  induction l generalizing v with
  | nil => exact h
  | cons c l ih => exact ih _ (crcK_lt v c 8 h)
theorem crcL_snoc (l : List UInt8) (c : UInt8) (v : Nat) : crcL (l ++ [c]) v = crcK (crcL l v) c 8 := by simp [crcL, List.foldl_append]
theorem take_snoc (s : ByteArray) (k : Nat) (h : k < s.size) : s.data.toList.take (k + 1) = s.data.toList.take k ++ [s[k]] := by
  rw [List.take_succ_eq_append_getElem (by simpa using h)]; rfl
theorem crc_next (s : ByteArray) (k v x y : Nat) (h : k < s.size) (H : Hid (crcL (s.data.toList.take k) v = x)) (J : Hid (crcK x s[k] 8 = y)) : Hid (crcL (s.data.toList.take (k + 1)) v = y) :=
  Lib.hid (by rw [take_snoc s k h, crcL_snoc, H.out, J.out])
theorem crc_bit (c : UInt8) (j : Nat) : wrap64 (bits BinOp.and IntKind.u8 ((c.toNat : Int) / 2 ^ (7 - j)) 1) = if c.toNat.testBit (7 - j) then 1 else 0 := by
  have h1 : ((c.toNat : Int) / 2 ^ (7 - j)) = ((c.toNat / 2 ^ (7 - j) : Nat) : Int) := by simp
  have h2 : c.toNat / 2 ^ (7 - j) < 256 := Nat.lt_of_le_of_lt (Nat.div_le_self _ _) (byte_lt c)
  rw [h1, u8_and_one _ h2, wrap64_nat _ (by omega), testBit_div]
  rcases Nat.mod_two_eq_zero_or_one (c.toNat / 2 ^ (7 - j)) with e | e <;> simp [e]
theorem crc_lost (y : Nat) (hy : y < 65536) : ((y : Int) / 32768) = if 32768 ≤ y then 1 else 0 := by split <;> omega
theorem crc_and (y : Nat) (hy : y < 65536) : bits BinOp.and IntKind.i64 ((y : Int) * 2) 65535 = ((y * 2 % 65536 : Nat) : Int) := by
  have := i64_and_nat (y * 2) 65535 (by omega) (by omega)
  rw [nat_mask16] at this
  rw [← this]; congr 1
theorem crc_xor (y : Nat) (hy : y < 65536) : bits BinOp.xor IntKind.i64 (y : Int) 4129 = ((y ^^^ 4129 : Nat) : Int) := i64_xor_nat y 4129 (by omega) (by omega)
theorem crc_yes (c : UInt8) (y j : Nat) (hy : y < 65536) (h : ((y : Int) / 32768 != wrap64 (bits BinOp.and IntKind.u8 ((c.toNat : Int) / 2 ^ (7 - j)) 1)) = true) :
    bits BinOp.xor IntKind.i64 (bits BinOp.and IntKind.i64 ((y : Int) * 2) 65535) 4129 = ((crcBit y (c.toNat.testBit (7 - j)) : Nat) : Int) := by
  rw [crc_bit, crc_lost y hy] at h
  rw [crc_and y hy, crc_xor _ (by omega)]
  unfold crcBit
  rw [if_pos]
  cases hb : c.toNat.testBit (7 - j) <;> simp [hb] at h ⊢ <;> omega
theorem crc_no (c : UInt8) (y j : Nat) (hy : y < 65536) (h : ((y : Int) / 32768 != wrap64 (bits BinOp.and IntKind.u8 ((c.toNat : Int) / 2 ^ (7 - j)) 1)) = false) :
    bits BinOp.and IntKind.i64 ((y : Int) * 2) 65535 = ((crcBit y (c.toNat.testBit (7 - j)) : Nat) : Int) := by
  rw [crc_bit, crc_lost y hy] at h
  rw [crc_and y hy]
  unfold crcBit
  rw [if_neg]
  cases hb : c.toNat.testBit (7 - j) <;> simp [hb] at h ⊢ <;> omega
theorem crcK_next (x : Nat) (c : UInt8) (j y : Nat) (H : Hid (crcK x c j = y)) : Hid (crcK x c (j + 1) = crcBit y (c.toNat.testBit (7 - j))) :=
  Lib.hid (by rw [crcK, H.out])

set_option maxHeartbeats 1000000 in
theorem crc_i (s : ByteArray) (v : Nat) (w : World) (hs : s.size ≤ 2097152) (hv : v < 65536) :
    Calls Tryz.prog 122 #[.string s, .int .i64 v] w fun e w' => e = .returned (.int .i64 (crcL s.data.toList v)) ∧ w = w' := by
  go_enter Tryz.func122, Tryz.ntmps122
  go_wp2
  go_loop [10, 1] (fun i n => ∃ k x : Nat, k ≤ s.size ∧ i = .int .i64 k ∧ n = .int .i64 x ∧ x < 65536 ∧ Hid (crcL (s.data.toList.take k) v = x)) (fun i _ => s.size - (intOf i).toNat)
  case atStart => exact ⟨0, v, by omega, rfl, rfl, hv, Lib.hid rfl⟩
  case round =>
    obtain ⟨k, x, hk, rfl, rfl, hx, HK⟩ := hrel
    by_cases hlt : k < s.size
    · go_wp2
      go_loop [6, 1] (fun i n => ∃ j y : Nat, j ≤ 8 ∧ i = .int .i64 (7 - (j : Int)) ∧ n = .int .i64 y ∧ y < 65536 ∧ Hid (crcK x s[k] j = y)) (fun i _ => (intOf i + 1).toNat)
      case atStart => exact ⟨0, x, by omega, rfl, rfl, hx, Lib.hid rfl⟩
      case round =>
        obtain ⟨j, y, hj, rfl, rfl, hy, HJ⟩ := hrel
        by_cases hj8 : j < 8
        · go_wp2
          · have ht : ((y : Int) / 32768 != wrap64 (bits BinOp.and IntKind.u8 ((s[k].toNat : Int) / 2 ^ (7 - j)) 1)) = true := by assumption
            go_round
            case rel => exact ⟨j + 1, _, by omega, by congr 1; omega, by rw [crc_yes _ _ _ hy ht], crcBit_lt _ _, crcK_next _ _ _ _ HJ⟩
            case measure => simp [intOf]; omega
          · have ht : ((y : Int) / 32768 != wrap64 (bits BinOp.and IntKind.u8 ((s[k].toNat : Int) / 2 ^ (7 - j)) 1)) = false := by assumption
            go_round
            case rel => exact ⟨j + 1, _, by omega, by congr 1; omega, by rw [crc_no _ _ _ hy ht], crcBit_lt _ _, crcK_next _ _ _ _ HJ⟩
            case measure => simp [intOf]; omega
        · obtain rfl : j = 8 := by omega
          go_wp2
          go_round
          case rel => exact ⟨k + 1, y, by omega, by go_num, rfl, hy, crc_next s k v x y hlt HK HJ⟩
          case measure => simp [intOf]; omega
    · go_wp2
      go_ret
      exact ⟨ret_int (by rw [← HK.out, List.take_of_length_le (by rw [data_len]; omega)]), rfl⟩

/-! the reference's -/
theorem crc_bit_s (c : UInt8) (j : Nat) : bits BinOp.and IntKind.i64 (wrap64 ((c.toNat : Int) / 2 ^ (7 - j))) 1 = if c.toNat.testBit (7 - j) then 1 else 0 := by
  have h1 : ((c.toNat : Int) / 2 ^ (7 - j)) = ((c.toNat / 2 ^ (7 - j) : Nat) : Int) := by simp
  have h2 : c.toNat / 2 ^ (7 - j) < 256 := Nat.lt_of_le_of_lt (Nat.div_le_self _ _) (byte_lt c)
  have h3 := i64_and_nat (c.toNat / 2 ^ (7 - j)) 1 (by omega) (by omega)
  rw [nat_mask1] at h3
  rw [h1, wrap64_nat _ (by omega)]
  refine Eq.trans h3 ?_
  rw [testBit_div]
  rcases Nat.mod_two_eq_zero_or_one (c.toNat / 2 ^ (7 - j)) with e | e <;> simp [e]
theorem crc_lost_s (y : Nat) (hy : y < 65536) : bits BinOp.and IntKind.i64 ((y : Int) / 32768) 1 = if 32768 ≤ y then 1 else 0 := by
  have h3 := i64_and_nat (y / 32768) 1 (by omega) (by omega)
  rw [nat_mask1] at h3
  have h1 : ((y : Int) / 32768) = ((y / 32768 : Nat) : Int) := by simp
  rw [h1]
  refine Eq.trans h3 ?_
  split <;> omega
theorem crc_yes_s (c : UInt8) (y j : Nat) (hy : y < 65536) (h : (bits BinOp.and IntKind.i64 ((y : Int) / 32768) 1 != bits BinOp.and IntKind.i64 (wrap64 ((c.toNat : Int) / 2 ^ (7 - j))) 1) = true) :
    bits BinOp.xor IntKind.i64 (bits BinOp.and IntKind.i64 ((y : Int) * 2) 65535) 4129 = ((crcBit y (c.toNat.testBit (7 - j)) : Nat) : Int) := by
  rw [crc_bit_s, crc_lost_s y hy] at h
  rw [crc_and y hy, crc_xor _ (by omega)]
  unfold crcBit
  rw [if_pos]
  cases hb : c.toNat.testBit (7 - j) <;> simp [hb] at h ⊢ <;> omega
theorem crc_no_s (c : UInt8) (y j : Nat) (hy : y < 65536) (h : (bits BinOp.and IntKind.i64 ((y : Int) / 32768) 1 != bits BinOp.and IntKind.i64 (wrap64 ((c.toNat : Int) / 2 ^ (7 - j))) 1) = false) :
    bits BinOp.and IntKind.i64 ((y : Int) * 2) 65535 = ((crcBit y (c.toNat.testBit (7 - j)) : Nat) : Int) := by
  rw [crc_bit_s, crc_lost_s y hy] at h
  rw [crc_and y hy]
  unfold crcBit
  rw [if_neg]
  cases hb : c.toNat.testBit (7 - j) <;> simp [hb] at h ⊢ <;> omega
set_option maxHeartbeats 1000000 in
theorem crc_s (s : ByteArray) (v : Nat) (w : World) (hs : s.size ≤ 2097152) (hv : v < 65536) :
    Calls Tryz.prog 72 #[.string s, .int .i64 v] w fun e w' => e = .returned (.int .i64 (crcL s.data.toList v)) ∧ w = w' := by
  go_enter Tryz.func72, Tryz.ntmps72
  go_wp2
  go_loop [6, 5] (fun i n => ∃ k x : Nat, k ≤ s.size ∧ i = .int .i64 k ∧ n = .int .i64 x ∧ x < 65536 ∧ Hid (crcL (s.data.toList.take k) v = x)) (fun i _ => s.size - (intOf i).toNat)
  case atStart => exact ⟨0, v, by omega, rfl, rfl, hv, Lib.hid rfl⟩
  case round =>
    obtain ⟨k, x, hk, rfl, rfl, hx, HK⟩ := hrel
    by_cases hlt : k < s.size
    · go_wp2
      go_loop [7, 5] (fun i n => ∃ j y : Nat, j ≤ 8 ∧ i = .int .i64 (7 - (j : Int)) ∧ n = .int .i64 y ∧ y < 65536 ∧ Hid (crcK x s[k] j = y)) (fun i _ => (intOf i + 1).toNat)
      case atStart => exact ⟨0, x, by omega, rfl, rfl, hx, Lib.hid rfl⟩
      case round =>
        obtain ⟨j, y, hj, rfl, rfl, hy, HJ⟩ := hrel
        by_cases hj8 : j < 8
        · go_wp2
          · have ht : (bits BinOp.and IntKind.i64 ((y : Int) / 32768) 1 != bits BinOp.and IntKind.i64 (wrap64 ((s[k].toNat : Int) / 2 ^ (7 - j))) 1) = true := by assumption
            go_round
            case rel => exact ⟨j + 1, _, by omega, by congr 1; omega, by rw [crc_yes_s _ _ _ hy ht], crcBit_lt _ _, crcK_next _ _ _ _ HJ⟩
            case measure => simp [intOf]; omega
          · have ht : (bits BinOp.and IntKind.i64 ((y : Int) / 32768) 1 != bits BinOp.and IntKind.i64 (wrap64 ((s[k].toNat : Int) / 2 ^ (7 - j))) 1) = false := by assumption
            go_round
            case rel => exact ⟨j + 1, _, by omega, by congr 1; omega, by rw [crc_no_s _ _ _ hy ht], crcBit_lt _ _, crcK_next _ _ _ _ HJ⟩
            case measure => simp [intOf]; omega
        · obtain rfl : j = 8 := by omega
          go_wp2
          go_round
          case rel => exact ⟨k + 1, y, by omega, by go_num, rfl, hy, crc_next s k v x y hlt HK HJ⟩
          case measure => simp [intOf]; omega
    · go_wp2
      go_ret
      exact ⟨ret_int (by rw [← HK.out, List.take_of_length_le (by rw [data_len]; omega)]), rfl⟩

/-- the check value from CrcStart on -/
def crcB (s : ByteArray) : Nat := crcL s.data.toList 65535
theorem crcS_i (s : ByteArray) (w : World) (hs : s.size ≤ 2097152) : Calls Tryz.prog 122 #[.string s, .int .i64 65535] w fun e w' => e = .returned (.int .i64 (crcB s)) ∧ w = w' :=
  crc_i s 65535 w hs (by omega)
theorem crcS_s (s : ByteArray) (w : World) (hs : s.size ≤ 2097152) : Calls Tryz.prog 72 #[.string s, .int .i64 65535] w fun e w' => e = .returned (.int .i64 (crcB s)) ∧ w = w' :=
  crc_s s 65535 w hs (by omega)
end Go.Proofs.YtfcdienphillnaaGreat
namespace Go.Proofs.YtfcdienphillnaaGreat
set_option linter.unusedVariables false
set_option linter.unusedSimpArgs false
open Go.RowKit

theorem nx4 (a b c d : Nat) : (a ^^^ b) ^^^ (c ^^^ d) = (a ^^^ c) ^^^ (b ^^^ d) := by
  rw [Nat.xor_assoc, ← Nat.xor_assoc b c d, Nat.xor_comm b c, Nat.xor_assoc c b d, ← Nat.xor_assoc a c]
theorem top_is (v : Nat) (h : v < 65536) : decide (32768 ≤ v) = v.testBit 15 := by
  rw [Nat.testBit_eq_decide_div_mod_eq]
  apply decide_eq_decide.2
  omega
theorem dbl_xor (x y : Nat) : (x ^^^ y) * 2 % 65536 = (x * 2 % 65536) ^^^ (y * 2 % 65536) := by
  have h : ∀ z : Nat, z * 2 % 65536 = (z <<< 1) % 2 ^ 16 := fun z => by rw [Nat.shiftLeft_eq]
  rw [h, h, h, Nat.shiftLeft_xor_distrib, Nat.xor_mod_two_pow]
theorem crcBit_is (v : Nat) (b : Bool) (h : v < 65536) : crcBit v b = (v * 2 % 65536) ^^^ (if (v.testBit 15) != b then 4129 else 0) := by
  unfold crcBit
  rw [top_is v h]
  split <;> simp
theorem crcBit_xor (x y : Nat) (a b : Bool) (hx : x < 65536) (hy : y < 65536) : crcBit (x ^^^ y) (a ^^ b) = crcBit x a ^^^ crcBit y b := by
  rw [crcBit_is x a hx, crcBit_is y b hy, crcBit_is _ _ (Nat.xor_lt_two_pow (n := 16) hx hy), nx4, dbl_xor, Nat.testBit_xor]
  congr 1
  cases x.testBit 15 <;> cases y.testBit 15 <;> cases a <;> cases b <;> rfl
theorem crcK_xor (x y : Nat) (c d : UInt8) (j : Nat) (hx : x < 65536) (hy : y < 65536) : crcK (x ^^^ y) (c ^^^ d) j = crcK x c j ^^^ crcK y d j := by
  induction j with
  | zero => rfl
  | succ j ih =>
    rw [crcK, crcK, crcK, ih, ← crcBit_xor _ _ _ _ (crcK_lt _ _ _ hx) (crcK_lt _ _ _ hy), UInt8.toNat_xor, Nat.testBit_xor]
theorem crcL_xor (l m : List UInt8) (a b : Nat) (h : l.length = m.length) (ha : a < 65536) (hb : b < 65536) : crcL (List.zipWith (· ^^^ ·) l m) (a ^^^ b) = crcL l a ^^^ crcL m b := by
  induction l generalizing m a b with
  | nil =>
    cases m with
    | nil => rfl
    | cons d m => simp at h
  | cons c l ih =>
    cases m with
    | nil => simp at h
    | cons d m =>
      have := ih m (crcK a c 8) (crcK b d 8) (by simpa using h) (crcK_lt _ _ _ ha) (crcK_lt _ _ _ hb)
      rw [← crcK_xor _ _ _ _ _ ha hb] at this
      simpa [crcL] using this
/-- the check value of bytes -/
def crcN (l : List Nat) (v : Nat) : Nat := crcL (l.map UInt8.ofNat) v
theorem crcN_lt (l : List Nat) (v : Nat) (h : v < 65536) : crcN l v < 65536 := crcL_lt _ _ h
theorem crcN_strN (l : List Nat) (v : Nat) : crcL (strN l).data.toList v = crcN l v := by
  unfold crcN strN
  rw [strOfNums_data, List.map_map]
  rfl
theorem crcN_bts (s : ByteArray) (v : Nat) : crcL s.data.toList v = crcN (bts s) v := by
  rw [← crcN_strN, strN_bts]
/-- the bytes with a bit changed -/
def flipN (l : List Nat) (bit : Nat) : List Nat := l.set (bit / 8) (l.getD (bit / 8) 0 ^^^ 128 / 2 ^ (bit % 8))
theorem flipN_len (l : List Nat) (bit : Nat) : (flipN l bit).length = l.length := by simp [flipN]
theorem pow_bit (k : Nat) (h : k < 8) : 128 / 2 ^ k < 256 := Nat.lt_of_le_of_lt (Nat.div_le_self _ _) (by omega)
theorem flipN_lt {l : List Nat} {bit : Nat} (h : ∀ x ∈ l, x < 256) : ∀ x ∈ flipN l bit, x < 256 := by
  intro x hx
  rcases List.mem_or_eq_of_mem_set hx with hx | rfl
  · exact h x hx
  · refine Nat.xor_lt_two_pow (n := 8) ?_ (pow_bit _ (Nat.mod_lt _ (by omega)))
    rw [List.getD_eq_getElem?_getD]
    cases hg : l[bit / 8]? with
    | none => simp
    | some y => exact h y (List.mem_of_getElem? hg)
/-- how a bit changes the check value of n bytes -/
def effN (n bit : Nat) : Nat := crcN (flipN (List.replicate n 0) bit) 0
theorem effN_lt (n bit : Nat) : effN n bit < 65536 := crcN_lt _ _ (by omega)
end Go.Proofs.YtfcdienphillnaaGreat
namespace Go.Proofs.YtfcdienphillnaaGreat
set_option linter.unusedVariables false
set_option linter.unusedSimpArgs false
open Go.RowKit

theorem bit_split (bit : Nat) : ∃ k r, bit / 8 = k ∧ bit % 8 = r ∧ r < 8 ∧ bit = 8 * k + r := ⟨bit / 8, bit % 8, rfl, rfl, Nat.mod_lt _ (by omega), by omega⟩
theorem flipN_at {l : List Nat} {bit k r x : Nat} (hk : bit / 8 = k) (hr : bit % 8 = r) (hx : l[k]? = some x) : flipN l bit = l.set k (x ^^^ 128 / 2 ^ r) := by
  unfold flipN; rw [hk, hr, List.getD_eq_getElem?_getD, hx]; rfl
theorem xor_u8 (x y : Nat) (hx : x < 256) (hy : y < 256) : bits .xor .u8 (x : Int) (y : Int) = ((x ^^^ y : Nat) : Int) := by
  have h : x ^^^ y < 2 ^ 8 := Nat.xor_lt_two_pow (by omega) (by omega)
  show IntKind.u8.wrap ((BitVec.ofInt 8 (x : Int) ^^^ BitVec.ofInt 8 (y : Int)).toNat : Int) = _
  rw [BitVec.toNat_xor, BitVec.ofInt_natCast, BitVec.ofInt_natCast, BitVec.toNat_ofNat, BitVec.toNat_ofNat, Nat.mod_eq_of_lt (by omega), Nat.mod_eq_of_lt (by omega), IntKind.wrap_u8]
  omega
theorem xor_sh (x r : Nat) (hx : x < 256) (hr : r < 8) : bits .xor .u8 (x : Int) (128 / 2 ^ r) = ((x ^^^ 128 / 2 ^ r : Nat) : Int) := by
  have := xor_u8 x (128 / 2 ^ r) hx (pow_bit r hr)
  rw [← this]; simp
set_option maxRecDepth 20000 in
set_option maxHeartbeats 1000000 in
theorem flip_i (s : ByteArray) (bit : Nat) (w : World) (hb : bit < 8 * s.size) (hs : s.size ≤ 1048576) :
    Calls Tryz.prog 216 #[.string s, .int .i64 bit] w fun e w' => e = .returned (.string (strN (flipN (bts s) bit))) ∧ Below w.heap.size w w' := by
  obtain ⟨c, wb, hcv, hbuf, hb0, hwz⟩ := buf_of_str w s
  obtain ⟨k, r, hk, hr, hr8, hbit⟩ := bit_split bit
  have hl := bts_len s
  have hkl : k < s.size := by omega
  have hx := bts_get hkl
  obtain ⟨p1, p2⟩ := hbuf k _ hx
  have hx8 := UInt8.toNat_lt s[k]
  generalize s[k].toNat = x at *
  have HS := Lib.hid (hbuf.set (x ^^^ 128 / 2 ^ r) hx)
  rw [← flipN_at hk hr hx] at HS
  have e1 : ((bit : Int) / 8) = (k : Int) := by omega
  have e2 : ((bit : Int) % 8) = (r : Int) := by omega
  have hxs := xor_sh x r hx8 hr8
  have hst := (HS.out.block (w' := (wb.setCell ⟨w.heap.size, k, none⟩ (.int .u8 ((x ^^^ 128 / 2 ^ r : Nat) : Int))).drew) rfl).str (n := s.size) (c := c) (by rw [flipN_len, hl])
  have e3 : ((bit : Int).tmod 8) = (r : Int) := by rw [Int.tmod_eq_emod_of_nonneg (by omega)]; omega
  have hww : IntKind.i64.wrap (k : Int) = k := by rw [IntKind.wrap_i64]; omega
  have hwr : IntKind.i64.wrap (r : Int) = r := by rw [IntKind.wrap_i64]; omega
  clear hx hbuf hk hr hbit
  go_enter Tryz.func216, Tryz.ntmps216
  go_wp2
  have q1 := (show ({ wb with drawn := wb.drawn + 1 } : World).cell? _ = _ from p1)
  have q2 := (show ({ wb with drawn := wb.drawn + 1 } : World).frozen? _ = _ from p2)
  go_still_tail 10, (by kernel_rfl)
  go_wp2
  go_ret
  exact ⟨rfl, (by repeat (first | exact Below.refl _ _ | refine Below.alloc ?_ (by first | omega | (simp; done) | (simp; omega)) _ | apply Below.drew | apply below_drewN | refine Below.setCell ?_ (by first | omega | (simp; done) | (simp; omega)) _ | refine Below.trans ?_ (Below.mono (by assumption) (by first | omega | (simp; done) | (simp; omega)))))⟩
theorem crcn_i (s : ByteArray) (v : Nat) (w : World) (hs : s.size ≤ 2097152) (hv : v < 65536) :
    Calls Tryz.prog 122 #[.string s, .int .i64 v] w fun e w' => e = .returned (.int .i64 (crcN (bts s) v)) ∧ w = w' := by
  rw [← crcN_bts]; exact crc_i s v w hs hv
theorem bts_zero (n : Nat) : bts (strN (List.replicate n 0)) = List.replicate n 0 := bts_strN (by intro x h; obtain ⟨_, rfl⟩ := List.mem_replicate.1 h; omega)
theorem zero_lt (n : Nat) : ∀ x ∈ List.replicate n 0, x < 256 := by intro x h; obtain ⟨_, rfl⟩ := List.mem_replicate.1 h; omega
set_option maxHeartbeats 1000000 in
theorem eff_i (n bit : Nat) (w : World) (hn : n ≤ 64) (hb : bit < 8 * n) :
    Calls Tryz.prog 206 #[.int .i64 n, .int .i64 bit] w fun e w' => e = .returned (.int .i64 (effN n bit)) ∧ Below w.heap.size w w' := by
  have H1 := fun w => flip_i (strN (List.replicate n 0)) bit w (by rw [strN_size]; simp; omega) (by rw [strN_size]; simp; omega)
  rw [bts_zero] at H1
  have H2 := fun w => crcn_i (strN (flipN (List.replicate n 0) bit)) 0 w (by rw [strN_size, flipN_len]; simp; omega) (by omega)
  rw [bts_strN (flipN_lt (zero_lt n))] at H2
  have HX1 := Lib.hid H1
  have HX2 := Lib.hid H2
  clear H1 H2
  have HE : Hid (effN n bit = crcN (flipN (List.replicate n 0) bit) 0) := Lib.hid rfl
  go_enter Tryz.func206, Tryz.ntmps206
  go_wp2_with (fail)
  refine (zeros_i n _ (by omega)).mono ?_; rintro e w1 ⟨rfl, hb1⟩
  go_wp2_with (fail)
  refine (HX1.out _).mono ?_; rintro e w2 ⟨rfl, hb2⟩
  go_wp2_with (fail)
  refine (HX2.out _).mono ?_; rintro e w3 ⟨rfl, rfl⟩
  have z1 := hb1.size
  go_wp2
  go_ret
  exact ⟨ret_int (by rw [HE.out]), (by repeat (first | exact Below.refl _ _ | refine Below.alloc ?_ (by first | omega | (simp; done) | (simp; omega)) _ | apply Below.drew | apply below_drewN | refine Below.setCell ?_ (by first | omega | (simp; done) | (simp; omega)) _ | refine Below.trans ?_ (Below.mono (by assumption) (by first | omega | (simp; done) | (simp; omega)))))⟩
end Go.Proofs.YtfcdienphillnaaGreat
namespace Go.Proofs.YtfcdienphillnaaGreat
set_option linter.unusedVariables false
set_option linter.unusedSimpArgs false

structure Rw where
  m : Nat
  r : Bool
instance : Inhabited Rw := ⟨⟨0, false⟩⟩
theorem Rw.ext' {a b : Rw} (h1 : a.m = b.m) (h2 : a.r = b.r) : a = b := by cases a; cases b; simp_all
def Rw.add (a b : Rw) : Rw := ⟨a.m ^^^ b.m, a.r ^^ b.r⟩

def dotN : Nat → Nat → (Nat → Bool) → Bool
  | 0, _, _ => false
  | n + 1, m, x => dotN n m x ^^ (m.testBit n && x n)
def dot (m : Nat) (x : Nat → Bool) : Bool := dotN 64 m x
def upd (x : Nat → Bool) (k : Nat) (b : Bool) : Nat → Bool := fun j => if j = k then b else x j
theorem upd_same (x : Nat → Bool) (k : Nat) (b : Bool) : upd x k b k = b := by simp [upd]
theorem upd_far {x : Nat → Bool} {j k : Nat} {b : Bool} (h : j ≠ k) : upd x k b j = x j := by simp [upd, h]
theorem dotN_xor (n a b : Nat) (x : Nat → Bool) : dotN n (a ^^^ b) x = (dotN n a x ^^ dotN n b x) := by
  induction n with
  | zero => rfl
  | succ n ih =>
    simp only [dotN, ih, Nat.testBit_xor]
    cases dotN n a x <;> cases dotN n b x <;> cases a.testBit n <;> cases b.testBit n <;> cases x n <;> rfl
theorem dotN_congr {n m : Nat} {x y : Nat → Bool} (h : ∀ k, k < n → m.testBit k = true → x k = y k) : dotN n m x = dotN n m y := by
  induction n with
  | zero => rfl
  | succ n ih =>
    simp only [dotN, ih (fun k hk => h k (by omega))]
    cases hb : m.testBit n with
    | false => simp
    | true => rw [h n (by omega) hb]
theorem dotN_zero (n : Nat) (x : Nat → Bool) : dotN n 0 x = false := by
  induction n with
  | zero => rfl
  | succ n ih => simp [dotN, ih]
theorem dotN_upd {n k : Nat} (m : Nat) (x : Nat → Bool) (b : Bool) (hk : k < n) : dotN n m (upd x k b) = (dotN n m x ^^ (m.testBit k && (x k ^^ b))) := by
  induction n with
  | zero => omega
  | succ n ih =>
    simp only [dotN]
    by_cases e : k = n
    · subst e
      rw [upd_same, dotN_congr (y := x) (fun j hj _ => upd_far (by omega))]
      cases dotN k m x <;> cases m.testBit k <;> cases x k <;> cases b <;> rfl
    · rw [ih (by omega), upd_far (by omega : n ≠ k)]
      cases dotN n m x <;> cases m.testBit k <;> cases x k <;> cases b <;> cases (m.testBit n && x n) <;> rfl
theorem dotN_le {n N m : Nat} {x : Nat → Bool} (hn : n ≤ N) (hm : m < 2 ^ n) : dotN N m x = dotN n m x := by
  induction N with
  | zero => rw [show n = 0 by omega]
  | succ N ih =>
    by_cases e : n = N + 1
    · rw [e]
    · have : m.testBit N = false := Nat.testBit_lt_two_pow (Nat.lt_of_lt_of_le hm (Nat.pow_le_pow_right (by omega) (by omega)))
      simp only [dotN, ih (by omega), this, Bool.false_and, Bool.xor_false]

theorem dot_xor (a b : Nat) (x : Nat → Bool) : dot (a ^^^ b) x = (dot a x ^^ dot b x) := dotN_xor _ _ _ _
theorem dot_congr {m : Nat} {x y : Nat → Bool} (h : ∀ k, k < 64 → m.testBit k = true → x k = y k) : dot m x = dot m y := dotN_congr h
theorem dot_zero (x : Nat → Bool) : dot 0 x = false := dotN_zero _ _
theorem dot_upd {k : Nat} (m : Nat) (x : Nat → Bool) (b : Bool) (hk : k < 64) : dot m (upd x k b) = (dot m x ^^ (m.testBit k && (x k ^^ b))) := dotN_upd _ _ _ hk
theorem dot_off {k m : Nat} {x : Nat → Bool} {b : Bool} (h : m.testBit k = false) : dot m (upd x k b) = dot m x := dot_congr fun j _ hb => upd_far (by intro e; rw [e, h] at hb; cases hb)
def Sol (l : List Rw) (x : Nat → Bool) : Prop := ∀ e ∈ l, dot e.m x = e.r
theorem Sol.cons {e : Rw} {l : List Rw} {x : Nat → Bool} : Sol (e :: l) x ↔ dot e.m x = e.r ∧ Sol l x := by simp [Sol]
theorem Sol.app {a b : List Rw} {x : Nat → Bool} : Sol (a ++ b) x ↔ Sol a x ∧ Sol b x := by
  simp only [Sol, List.mem_append]; exact ⟨fun h => ⟨fun e he => h e (.inl he), fun e he => h e (.inr he)⟩, fun h e he => he.elim (h.1 e) (h.2 e)⟩
theorem Sol.nil {x : Nat → Bool} : Sol [] x := by intro e h; cases h
theorem dot_add {a b : Rw} {x : Nat → Bool} (hb : dot b.m x = b.r) : (dot (a.add b).m x = (a.add b).r) ↔ dot a.m x = a.r := by
  simp only [Rw.add, dot_xor]
  rw [hb]
  cases dot a.m x <;> cases a.r <;> cases b.r <;> simp
theorem Sol.congr {l : List Rw} {x y : Nat → Bool} (h : ∀ k, k < 64 → x k = y k) (hs : Sol l x) : Sol l y := fun e he => by
  rw [← hs e he]; exact dot_congr (fun k hk _ => (h k hk).symm)

/-- which bit of a number that is not 0 leads its row -/
structure Piv (p : Nat → Nat) : Prop where
  on : ∀ m, m ≠ 0 → m.testBit (p m) = true
  keep : ∀ a b, a.testBit (p a) = true → b.testBit (p a) = false → b ≠ 0 → a.testBit (p b) = true → p (a ^^^ b) = p a
/-- a solved list: the leading bit of each row is in no other row -/
structure Red (p : Nat → Nat) (l : List Rw) : Prop where
  on : ∀ e ∈ l, e.m.testBit (p e.m) = true
  lt : ∀ e ∈ l, e.m < 2 ^ 64
  sep : l.Pairwise fun a b => b.m.testBit (p a.m) = false ∧ a.m.testBit (p b.m) = false
theorem Red.nil {p : Nat → Nat} : Red p [] := ⟨fun _ h => (by cases h), fun _ h => (by cases h), List.Pairwise.nil⟩
theorem Red.tail {p : Nat → Nat} {e : Rw} {l : List Rw} (h : Red p (e :: l)) : Red p l :=
  ⟨fun a ha => h.on a (by simp [ha]), fun a ha => h.lt a (by simp [ha]), (List.pairwise_cons.1 h.sep).2⟩
theorem bit_lt {m k : Nat} (h : m < 2 ^ 64) (hb : m.testBit k = true) : k < 64 := by
  apply Classical.byContradiction; intro hk
  rw [Nat.testBit_lt_two_pow (Nat.lt_of_lt_of_le h (Nat.pow_le_pow_right (by omega) (by omega)))] at hb; cases hb
theorem Red.plt {p : Nat → Nat} {l : List Rw} (h : Red p l) {e : Rw} (he : e ∈ l) : p e.m < 64 := bit_lt (h.lt e he) (h.on e he)
def isP (p : Nat → Nat) (l : List Rw) (k : Nat) : Bool := l.any fun e => p e.m == k
theorem isP_iff {p : Nat → Nat} {l : List Rw} {k : Nat} : isP p l k = true ↔ ∃ e ∈ l, p e.m = k := by simp [isP]
/-- whatever stands in the free bits, there is a solution -/
theorem Red.sol {p : Nat → Nat} {l : List Rw} (h : Red p l) (a : Nat → Bool) : ∃ x, Sol l x ∧ ∀ k, isP p l k = false → x k = a k := by
  induction l with
  | nil => exact ⟨a, Sol.nil, fun _ _ => rfl⟩
  | cons e l ih =>
    obtain ⟨x, hs, hf⟩ := ih h.tail
    have hk := h.plt (e := e) (by simp)
    have hon := h.on e (by simp)
    refine ⟨upd x (p e.m) (x (p e.m) ^^ dot e.m x ^^ e.r), Sol.cons.2 ⟨?_, fun b hb => ?_⟩, fun k hp => ?_⟩
    · rw [dot_upd _ _ _ hk, hon]
      cases dot e.m x <;> cases x (p e.m) <;> cases e.r <;> rfl
    · have := ((List.pairwise_cons.1 h.sep).1 b hb).1
      rw [dot_off this]
      exact hs b hb
    · simp only [isP, List.any_cons, Bool.or_eq_false_iff] at hp
      have : k ≠ p e.m := by intro e2; rw [e2] at hp; simp at hp
      rw [upd_far this]; exact hf k hp.2
theorem Red.other {p : Nat → Nat} {l : List Rw} (h : Red p l) {a b : Rw} (ha : a ∈ l) (hb : b ∈ l) (hne : a ≠ b) : b.m.testBit (p a.m) = false := by
  induction l with
  | nil => cases ha
  | cons e l ih =>
    have hp := List.pairwise_cons.1 h.sep
    rcases List.mem_cons.1 ha with rfl | ha'
    · rcases List.mem_cons.1 hb with rfl | hb'
      · exact absurd rfl hne
      · exact (hp.1 b hb').1
    · rcases List.mem_cons.1 hb with rfl | hb'
      · exact (hp.1 a ha').2
      · exact ih h.tail ha' hb'
/-- a row with a leading bit bears no other leading bit -/
theorem Red.only {p : Nat → Nat} {l : List Rw} (h : Red p l) {e : Rw} (he : e ∈ l) {k : Nat} (hb : e.m.testBit k = true) (hk : k ≠ p e.m) : isP p l k = false := by
  rw [Bool.eq_false_iff]; intro hp
  obtain ⟨a, ha, rfl⟩ := isP_iff.1 hp
  have : a ≠ e := by intro e2; rw [e2] at hk; exact hk rfl
  rw [h.other ha he this] at hb; cases hb
/-- the free bits tell the solution -/
theorem Red.uniq {p : Nat → Nat} {l : List Rw} (h : Red p l) {x y : Nat → Bool} (hx : Sol l x) (hy : Sol l y) (hf : ∀ k, k < 64 → isP p l k = false → x k = y k) : ∀ k, k < 64 → x k = y k := by
  intro k hk
  cases hp : isP p l k with
  | false => exact hf k hk hp
  | true =>
    obtain ⟨e, he, rfl⟩ := isP_iff.1 hp
    have hon := h.on e he
    have e1 := hx e he
    have e2 := hy e he
    have e3 : dot e.m (upd x (p e.m) (y (p e.m))) = dot e.m y := dot_congr (fun j hj hb => by
      by_cases ej : j = p e.m
      · rw [ej, upd_same]
      · rw [upd_far ej]; exact hf j hj (h.only he hb ej))
    rw [dot_upd _ _ _ hk, hon, e1, e2] at e3
    revert e3
    cases x (p e.m) <;> cases y (p e.m) <;> cases e.r <;> simp

/-- how many of the values of the first n bits have a property -/
def cntB : Nat → ((Nat → Bool) → Bool) → Nat
  | 0, f => if f (fun _ => false) then 1 else 0
  | n + 1, f => cntB n (fun x => f (upd x n false)) + cntB n (fun x => f (upd x n true))
theorem cntB_split (n : Nat) (f g : (Nat → Bool) → Bool) : cntB n f = cntB n (fun x => f x && g x) + cntB n (fun x => f x && !g x) := by
  induction n generalizing f g with
  | zero => show (if f (fun _ => false) then 1 else 0) = (if (f (fun _ => false) && g (fun _ => false)) then 1 else 0) + (if (f (fun _ => false) && !g (fun _ => false)) then 1 else 0); generalize f (fun _ => false) = a; generalize g (fun _ => false) = b; revert a b; decide
  | succ n ih => simp only [cntB]; rw [ih _ (fun x => g (upd x n false)), ih (fun x => f (upd x n true)) (fun x => g (upd x n true))]; omega
theorem cntB_flip {n k : Nat} (f : (Nat → Bool) → Bool) (hk : k < n) : cntB n (fun x => f (upd x k (!x k))) = cntB n f := by
  induction n generalizing f with
  | zero => omega
  | succ n ih =>
    simp only [cntB]
    by_cases e : k = n
    · subst e
      have h1 : ∀ (b : Bool) (x : Nat → Bool), upd (upd x k b) k (!(upd x k b) k) = upd x k (!b) := fun b x => by
        funext j; simp only [upd]; split <;> simp
      simp only [h1, Bool.not_false, Bool.not_true]; omega
    · have h1 : ∀ (b : Bool) (x : Nat → Bool), upd (upd x n b) k (!(upd x n b) k) = upd (upd x k (!x k)) n b := fun b x => by
        funext j; simp only [upd]; rw [if_neg e]; by_cases j1 : j = k <;> by_cases j2 : j = n <;> simp [j1, j2] <;> omega
      simp only [h1]
      rw [ih (fun x => f (upd x n false)) (by omega), ih (fun x => f (upd x n true)) (by omega)]
theorem cntB_congr {n : Nat} {f g : (Nat → Bool) → Bool} (h : ∀ x, f x = g x) : cntB n f = cntB n g := by rw [show f = g from funext h]
theorem cntB_true (n : Nat) : cntB n (fun _ => true) = 2 ^ n := by
  induction n with
  | zero => rfl
  | succ n ih => simp only [cntB, ih]; omega
def solB (l : List Rw) (x : Nat → Bool) : Bool := l.all fun e => dot e.m x == e.r
theorem solB_iff {l : List Rw} {x : Nat → Bool} : solB l x = true ↔ Sol l x := by simp [solB, Sol]
theorem Red.cnt {p : Nat → Nat} {l : List Rw} {N : Nat} (hN : 64 ≤ N) (h : Red p l) : cntB N (solB l) * 2 ^ l.length = 2 ^ N := by
  induction l with
  | nil =>
    have e : solB [] = fun _ => true := rfl
    rw [e, cntB_true, List.length_nil, Nat.pow_zero, Nat.mul_one]
  | cons e l ih =>
    have hk := h.plt (e := e) (by simp)
    have hon := h.on e (by simp)
    have h1 := cntB_split N (solB l) (fun x => dot e.m x == e.r)
    have h2 := cntB_flip (n := N) (fun x => solB l x && !(dot e.m x == e.r)) (Nat.lt_of_lt_of_le hk hN)
    have h3 : ∀ x, (solB l (upd x (p e.m) (!x (p e.m))) && !(dot e.m (upd x (p e.m) (!x (p e.m))) == e.r)) = (solB l x && (dot e.m x == e.r)) := fun x => by
      have : solB l (upd x (p e.m) (!x (p e.m))) = solB l x := by
        simp only [solB]
        rw [Bool.eq_iff_iff]
        simp only [List.all_eq_true]
        refine forall_congr' fun b => forall_congr' fun hb => ?_
        have := ((List.pairwise_cons.1 h.sep).1 b hb).1
        rw [dot_off this]
      rw [this, dot_upd _ _ _ hk, hon]
      cases solB l x <;> cases dot e.m x <;> cases x (p e.m) <;> cases e.r <;> rfl
    rw [cntB_congr h3] at h2
    have h4 : cntB N (solB (e :: l)) = cntB N (fun x => solB l x && (dot e.m x == e.r)) := cntB_congr fun x => by simp only [solB, List.all_cons, Bool.and_comm]
    have := ih h.tail
    rw [h4, List.length_cons, Nat.pow_succ, ← Nat.mul_assoc]
    rw [h1, ← h2] at this
    rw [← this, Nat.add_mul]; omega
/-- two solved lists with the same solutions have the same number of rows -/
theorem red_lenN {p q : Nat → Nat} {a b : List Rw} {N : Nat} (hN : 64 ≤ N) (ha : Red p a) (hb : Red q b) (h : ∀ x, Sol a x ↔ Sol b x) : a.length = b.length := by
  have e : cntB N (solB a) = cntB N (solB b) := cntB_congr fun x => by rw [Bool.eq_iff_iff, solB_iff, solB_iff]; exact h x
  have h1 := ha.cnt hN
  have h2 := hb.cnt hN
  rw [e] at h1
  have h3 : 0 < cntB N (solB b) := Nat.pos_of_ne_zero (by intro h0; rw [h0, Nat.zero_mul] at h2; have := Nat.two_pow_pos N; omega)
  exact (Nat.pow_right_inj (by omega : 1 < 2)).1 (Nat.eq_of_mul_eq_mul_left h3 (h1.trans h2.symm))
theorem red_len {p q : Nat → Nat} {a b : List Rw} (ha : Red p a) (hb : Red q b) (h : ∀ x, Sol a x ↔ Sol b x) : a.length = b.length := red_lenN (Nat.le_refl 64) ha hb h
end Go.Proofs.YtfcdienphillnaaGreat
