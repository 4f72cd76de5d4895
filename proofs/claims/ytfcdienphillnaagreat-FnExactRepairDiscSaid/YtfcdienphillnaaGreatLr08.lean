/- crc16, impl and spec: the walks; both compute crcL. The check value is linear: plain laws. flipped, crcEffect, l25Flip, l25Effect: the walks. -/
import Derived.Test.YtfcdienphillnaaGreatLr01
import Derived.Test.YtfcdienphillnaaGreatLr04
namespace Go.Proofs.YtfcdienphillnaaGreat
set_option linter.unusedVariables false
set_option linter.unusedSimpArgs false
open Go.RowKit

def crcBit (v : Nat) (b : Bool) : Nat := if (decide (32768 ≤ v)) != b then (v * 2 % 65536) ^^^ 4129 else v * 2 % 65536
def crcK (v : Nat) (c : UInt8) : Nat → Nat
  | 0 => v
  | j + 1 => crcBit (crcK v c j) (c.toNat.testBit (7 - j))
def crcL (l : List UInt8) (v : Nat) : Nat := l.foldl (fun v c => crcK v c 8) v

theorem crcBit_lt (v : Nat) (b : Bool) : crcBit v b < 65536 := by
  unfold crcBit
  split
  · exact Nat.xor_lt_two_pow (n := 16) (by omega) (by omega)
  · omega
theorem crcK_lt (v : Nat) (c : UInt8) (j : Nat) (h : v < 65536) : crcK v c j < 65536 := by
  cases j with
  | zero => exact h
  | succ j => exact crcBit_lt _ _
theorem crcL_lt (l : List UInt8) (v : Nat) (h : v < 65536) : crcL l v < 65536 := by
  unfold crcL
  induction l generalizing v with
  | nil => exact h
  | cons c l ih => exact ih _ (crcK_lt v c 8 h)
theorem crcL_snoc (l : List UInt8) (c : UInt8) (v : Nat) : crcL (l ++ [c]) v = crcK (crcL l v) c 8 := by simp [crcL, List.foldl_append]
theorem take_snoc (s : ByteArray) (k : Nat) (h : k < s.size) : s.data.toList.take (k + 1) = s.data.toList.take k ++ [s[k]] := by
  rw [List.take_succ_eq_append_getElem (by simpa using h)]; rfl
theorem crc_next (s : ByteArray) (k v x y : Nat) (h : k < s.size) (H : Hid (crcL (s.data.toList.take k) v = x)) (J : Hid (crcK x s[k] 8 = y)) : Hid (crcL (s.data.toList.take (k + 1)) v = y) :=
  Lib.hid (by rw [take_snoc s k h, crcL_snoc, H.out, J.out])
theorem crc_bit (c : UInt8) (j : Nat) : wrap64 (bits BinOp.and IntKind.u8 ((c.toNat : Int) / 2 ^ (7 - j)) 1) = if c.toNat.testBit (7 - j) then 1 else 0 := by
  have h1 : ((c.toNat : Int) / 2 ^ (7 - j)) = ((c.toNat / 2 ^ (7 - j) : Nat) : Int) := by simp
  have h2 : c.toNat / 2 ^ (7 - j) < 256 := Nat.lt_of_le_of_lt (Nat.div_le_self _ _) (byte_lt c)
  rw [h1, u8_and_one _ h2, wrap64_nat _ (by omega), testBit_div]
  rcases Nat.mod_two_eq_zero_or_one (c.toNat / 2 ^ (7 - j)) with e | e <;> simp [e]
theorem crc_lost (y : Nat) (hy : y < 65536) : ((y : Int) / 32768) = if 32768 ≤ y then 1 else 0 := by split <;> omega
theorem crc_and (y : Nat) (hy : y < 65536) : bits BinOp.and IntKind.i64 ((y : Int) * 2) 65535 = ((y * 2 % 65536 : Nat) : Int) := by
  have := i64_and_nat (y * 2) 65535 (by omega) (by omega)
  rw [nat_mask16] at this
  rw [← this]; congr 1
theorem crc_xor (y : Nat) (hy : y < 65536) : bits BinOp.xor IntKind.i64 (y : Int) 4129 = ((y ^^^ 4129 : Nat) : Int) := i64_xor_nat y 4129 (by omega) (by omega)
theorem crc_yes (c : UInt8) (y j : Nat) (hy : y < 65536) (h : ((y : Int) / 32768 != wrap64 (bits BinOp.and IntKind.u8 ((c.toNat : Int) / 2 ^ (7 - j)) 1)) = true) :
    bits BinOp.xor IntKind.i64 (bits BinOp.and IntKind.i64 ((y : Int) * 2) 65535) 4129 = ((crcBit y (c.toNat.testBit (7 - j)) : Nat) : Int) := by
  rw [crc_bit, crc_lost y hy] at h
  rw [crc_and y hy, crc_xor _ (by omega)]
  unfold crcBit
  rw [if_pos]
  cases hb : c.toNat.testBit (7 - j) <;> simp [hb] at h ⊢ <;> omega
theorem crc_no (c : UInt8) (y j : Nat) (hy : y < 65536) (h : ((y : Int) / 32768 != wrap64 (bits BinOp.and IntKind.u8 ((c.toNat : Int) / 2 ^ (7 - j)) 1)) = false) :
    bits BinOp.and IntKind.i64 ((y : Int) * 2) 65535 = ((crcBit y (c.toNat.testBit (7 - j)) : Nat) : Int) := by
  rw [crc_bit, crc_lost y hy] at h
  rw [crc_and y hy]
  unfold crcBit
  rw [if_neg]
  cases hb : c.toNat.testBit (7 - j) <;> simp [hb] at h ⊢ <;> omega
theorem crcK_next (x : Nat) (c : UInt8) (j y : Nat) (H : Hid (crcK x c j = y)) : Hid (crcK x c (j + 1) = crcBit y (c.toNat.testBit (7 - j))) :=
  Lib.hid (by rw [crcK, H.out])

set_option maxHeartbeats 1000000 in
theorem crc_i (s : ByteArray) (v : Nat) (w : World) (hs : s.size ≤ 2097152) (hv : v < 65536) :
    Calls Tryz.prog 122 #[.string s, .int .i64 v] w fun e w' => e = .returned (.int .i64 (crcL s.data.toList v)) ∧ w = w' := by
  go_enter Tryz.func122, Tryz.ntmps122
  go_wp2
  go_loop [10, 1] (fun i n => ∃ k x : Nat, k ≤ s.size ∧ i = .int .i64 k ∧ n = .int .i64 x ∧ x < 65536 ∧ Hid (crcL (s.data.toList.take k) v = x)) (fun i _ => s.size - (intOf i).toNat)
  case atStart => exact ⟨0, v, by omega, rfl, rfl, hv, Lib.hid rfl⟩
  case round =>
    obtain ⟨k, x, hk, rfl, rfl, hx, HK⟩ := hrel
    by_cases hlt : k < s.size
    · go_wp2
      go_loop [6, 1] (fun i n => ∃ j y : Nat, j ≤ 8 ∧ i = .int .i64 (7 - (j : Int)) ∧ n = .int .i64 y ∧ y < 65536 ∧ Hid (crcK x s[k] j = y)) (fun i _ => (intOf i + 1).toNat)
      case atStart => exact ⟨0, x, by omega, rfl, rfl, hx, Lib.hid rfl⟩
      case round =>
        obtain ⟨j, y, hj, rfl, rfl, hy, HJ⟩ := hrel
        by_cases hj8 : j < 8
        · go_wp2
          · have ht : ((y : Int) / 32768 != wrap64 (bits BinOp.and IntKind.u8 ((s[k].toNat : Int) / 2 ^ (7 - j)) 1)) = true := by assumption
            go_round
            case rel => exact ⟨j + 1, _, by omega, by congr 1; omega, by rw [crc_yes _ _ _ hy ht], crcBit_lt _ _, crcK_next _ _ _ _ HJ⟩
            case measure => simp [intOf]; omega
          · have ht : ((y : Int) / 32768 != wrap64 (bits BinOp.and IntKind.u8 ((s[k].toNat : Int) / 2 ^ (7 - j)) 1)) = false := by assumption
            go_round
            case rel => exact ⟨j + 1, _, by omega, by congr 1; omega, by rw [crc_no _ _ _ hy ht], crcBit_lt _ _, crcK_next _ _ _ _ HJ⟩
            case measure => simp [intOf]; omega
        · obtain rfl : j = 8 := by omega
          go_wp2
          go_round
          case rel => exact ⟨k + 1, y, by omega, by go_num, rfl, hy, crc_next s k v x y hlt HK HJ⟩
          case measure => simp [intOf]; omega
    · go_wp2
      go_ret
      exact ⟨ret_int (by rw [← HK.out, List.take_of_length_le (by rw [data_len]; omega)]), rfl⟩

/-! the reference's -/
theorem crc_bit_s (c : UInt8) (j : Nat) : bits BinOp.and IntKind.i64 (wrap64 ((c.toNat : Int) / 2 ^ (7 - j))) 1 = if c.toNat.testBit (7 - j) then 1 else 0 := by
  have h1 : ((c.toNat : Int) / 2 ^ (7 - j)) = ((c.toNat / 2 ^ (7 - j) : Nat) : Int) := by simp
  have h2 : c.toNat / 2 ^ (7 - j) < 256 := Nat.lt_of_le_of_lt (Nat.div_le_self _ _) (byte_lt c)
  have h3 := i64_and_nat (c.toNat / 2 ^ (7 - j)) 1 (by omega) (by omega)
  rw [nat_mask1] at h3
  rw [h1, wrap64_nat _ (by omega)]
  refine Eq.trans h3 ?_
  rw [testBit_div]
  rcases Nat.mod_two_eq_zero_or_one (c.toNat / 2 ^ (7 - j)) with e | e <;> simp [e]
theorem crc_lost_s (y : Nat) (hy : y < 65536) : bits BinOp.and IntKind.i64 ((y : Int) / 32768) 1 = if 32768 ≤ y then 1 else 0 := by
  have h3 := i64_and_nat (y / 32768) 1 (by omega) (by omega)
  rw [nat_mask1] at h3
  have h1 : ((y : Int) / 32768) = ((y / 32768 : Nat) : Int) := by simp
  rw [h1]
  refine Eq.trans h3 ?_
  split <;> omega
theorem crc_yes_s (c : UInt8) (y j : Nat) (hy : y < 65536) (h : (bits BinOp.and IntKind.i64 ((y : Int) / 32768) 1 != bits BinOp.and IntKind.i64 (wrap64 ((c.toNat : Int) / 2 ^ (7 - j))) 1) = true) :
    bits BinOp.xor IntKind.i64 (bits BinOp.and IntKind.i64 ((y : Int) * 2) 65535) 4129 = ((crcBit y (c.toNat.testBit (7 - j)) : Nat) : Int) := by
  rw [crc_bit_s, crc_lost_s y hy] at h
  rw [crc_and y hy, crc_xor _ (by omega)]
  unfold crcBit
  rw [if_pos]
  cases hb : c.toNat.testBit (7 - j) <;> simp [hb] at h ⊢ <;> omega
theorem crc_no_s (c : UInt8) (y j : Nat) (hy : y < 65536) (h : (bits BinOp.and IntKind.i64 ((y : Int) / 32768) 1 != bits BinOp.and IntKind.i64 (wrap64 ((c.toNat : Int) / 2 ^ (7 - j))) 1) = false) :
    bits BinOp.and IntKind.i64 ((y : Int) * 2) 65535 = ((crcBit y (c.toNat.testBit (7 - j)) : Nat) : Int) := by
  rw [crc_bit_s, crc_lost_s y hy] at h
  rw [crc_and y hy]
  unfold crcBit
  rw [if_neg]
  cases hb : c.toNat.testBit (7 - j) <;> simp [hb] at h ⊢ <;> omega
set_option maxHeartbeats 1000000 in
theorem crc_s (s : ByteArray) (v : Nat) (w : World) (hs : s.size ≤ 2097152) (hv : v < 65536) :
    Calls Tryz.prog 72 #[.string s, .int .i64 v] w fun e w' => e = .returned (.int .i64 (crcL s.data.toList v)) ∧ w = w' := by
  go_enter Tryz.func72, Tryz.ntmps72
  go_wp2
  go_loop [6, 5] (fun i n => ∃ k x : Nat, k ≤ s.size ∧ i = .int .i64 k ∧ n = .int .i64 x ∧ x < 65536 ∧ Hid (crcL (s.data.toList.take k) v = x)) (fun i _ => s.size - (intOf i).toNat)
  case atStart => exact ⟨0, v, by omega, rfl, rfl, hv, Lib.hid rfl⟩
  case round =>
    obtain ⟨k, x, hk, rfl, rfl, hx, HK⟩ := hrel
    by_cases hlt : k < s.size
    · go_wp2
      go_loop [7, 5] (fun i n => ∃ j y : Nat, j ≤ 8 ∧ i = .int .i64 (7 - (j : Int)) ∧ n = .int .i64 y ∧ y < 65536 ∧ Hid (crcK x s[k] j = y)) (fun i _ => (intOf i + 1).toNat)
      case atStart => exact ⟨0, x, by omega, rfl, rfl, hx, Lib.hid rfl⟩
      case round =>
        obtain ⟨j, y, hj, rfl, rfl, hy, HJ⟩ := hrel
        by_cases hj8 : j < 8
        · go_wp2
          · have ht : (bits BinOp.and IntKind.i64 ((y : Int) / 32768) 1 != bits BinOp.and IntKind.i64 (wrap64 ((s[k].toNat : Int) / 2 ^ (7 - j))) 1) = true := by assumption
            go_round
            case rel => exact ⟨j + 1, _, by omega, by congr 1; omega, by rw [crc_yes_s _ _ _ hy ht], crcBit_lt _ _, crcK_next _ _ _ _ HJ⟩
            case measure => simp [intOf]; omega
          · have ht : (bits BinOp.and IntKind.i64 ((y : Int) / 32768) 1 != bits BinOp.and IntKind.i64 (wrap64 ((s[k].toNat : Int) / 2 ^ (7 - j))) 1) = false := by assumption
            go_round
            case rel => exact ⟨j + 1, _, by omega, by congr 1; omega, by rw [crc_no_s _ _ _ hy ht], crcBit_lt _ _, crcK_next _ _ _ _ HJ⟩
            case measure => simp [intOf]; omega
        · obtain rfl : j = 8 := by omega
          go_wp2
          go_round
          case rel => exact ⟨k + 1, y, by omega, by go_num, rfl, hy, crc_next s k v x y hlt HK HJ⟩
          case measure => simp [intOf]; omega
    · go_wp2
      go_ret
      exact ⟨ret_int (by rw [← HK.out, List.take_of_length_le (by rw [data_len]; omega)]), rfl⟩

/-- the check value from CrcStart on -/
def crcB (s : ByteArray) : Nat := crcL s.data.toList 65535
theorem crcS_i (s : ByteArray) (w : World) (hs : s.size ≤ 2097152) : Calls Tryz.prog 122 #[.string s, .int .i64 65535] w fun e w' => e = .returned (.int .i64 (crcB s)) ∧ w = w' :=
  crc_i s 65535 w hs (by omega)
theorem crcS_s (s : ByteArray) (w : World) (hs : s.size ≤ 2097152) : Calls Tryz.prog 72 #[.string s, .int .i64 65535] w fun e w' => e = .returned (.int .i64 (crcB s)) ∧ w = w' :=
  crc_s s 65535 w hs (by omega)
end Go.Proofs.YtfcdienphillnaaGreat
namespace Go.Proofs.YtfcdienphillnaaGreat
set_option linter.unusedVariables false
set_option linter.unusedSimpArgs false
open Go.RowKit

theorem nx4 (a b c d : Nat) : (a ^^^ b) ^^^ (c ^^^ d) = (a ^^^ c) ^^^ (b ^^^ d) := by
  rw [Nat.xor_assoc, ← Nat.xor_assoc b c d, Nat.xor_comm b c, Nat.xor_assoc c b d, ← Nat.xor_assoc a c]
theorem top_is (v : Nat) (h : v < 65536) : decide (32768 ≤ v) = v.testBit 15 := by
  rw [Nat.testBit_eq_decide_div_mod_eq]
  apply decide_eq_decide.2
  omega
theorem dbl_xor (x y : Nat) : (x ^^^ y) * 2 % 65536 = (x * 2 % 65536) ^^^ (y * 2 % 65536) := by
  have h : ∀ z : Nat, z * 2 % 65536 = (z <<< 1) % 2 ^ 16 := fun z => by rw [Nat.shiftLeft_eq]
  rw [h, h, h, Nat.shiftLeft_xor_distrib, Nat.xor_mod_two_pow]
theorem crcBit_is (v : Nat) (b : Bool) (h : v < 65536) : crcBit v b = (v * 2 % 65536) ^^^ (if (v.testBit 15) != b then 4129 else 0) := by
  unfold crcBit
  rw [top_is v h]
  split <;> simp
theorem crcBit_xor (x y : Nat) (a b : Bool) (hx : x < 65536) (hy : y < 65536) : crcBit (x ^^^ y) (a ^^ b) = crcBit x a ^^^ crcBit y b := by
  rw [crcBit_is x a hx, crcBit_is y b hy, crcBit_is _ _ (Nat.xor_lt_two_pow (n := 16) hx hy), nx4, dbl_xor, Nat.testBit_xor]
  congr 1
  cases x.testBit 15 <;> cases y.testBit 15 <;> cases a <;> cases b <;> rfl
theorem crcK_xor (x y : Nat) (c d : UInt8) (j : Nat) (hx : x < 65536) (hy : y < 65536) : crcK (x ^^^ y) (c ^^^ d) j = crcK x c j ^^^ crcK y d j := by
  induction j with
  | zero => rfl
  | succ j ih =>
    rw [crcK, crcK, crcK, ih, ← crcBit_xor _ _ _ _ (crcK_lt _ _ _ hx) (crcK_lt _ _ _ hy), UInt8.toNat_xor, Nat.testBit_xor]
theorem crcL_xor (l m : List UInt8) (a b : Nat) (h : l.length = m.length) (ha : a < 65536) (hb : b < 65536) : crcL (List.zipWith (· ^^^ ·) l m) (a ^^^ b) = crcL l a ^^^ crcL m b := by
  induction l generalizing m a b with
  | nil =>
    cases m with
    | nil => rfl
    | cons d m => simp at h
  | cons c l ih =>
    cases m with
    | nil => simp at h
    | cons d m =>
      have := ih m (crcK a c 8) (crcK b d 8) (by simpa using h) (crcK_lt _ _ _ ha) (crcK_lt _ _ _ hb)
      rw [← crcK_xor _ _ _ _ _ ha hb] at this
      simpa [crcL] using this
/-- the check value of bytes -/
def crcN (l : List Nat) (v : Nat) : Nat := crcL (l.map UInt8.ofNat) v
theorem crcN_lt (l : List Nat) (v : Nat) (h : v < 65536) : crcN l v < 65536 := crcL_lt _ _ h
theorem crcN_strN (l : List Nat) (v : Nat) : crcL (strN l).data.toList v = crcN l v := by
  unfold crcN strN
  rw [strOfNums_data, List.map_map]
  rfl
theorem crcN_bts (s : ByteArray) (v : Nat) : crcL s.data.toList v = crcN (bts s) v := by
  rw [← crcN_strN, strN_bts]
/-- the bytes with a bit changed -/
def flipN (l : List Nat) (bit : Nat) : List Nat := l.set (bit / 8) (l.getD (bit / 8) 0 ^^^ 128 / 2 ^ (bit % 8))
theorem flipN_len (l : List Nat) (bit : Nat) : (flipN l bit).length = l.length := by simp [flipN]
theorem pow_bit (k : Nat) (h : k < 8) : 128 / 2 ^ k < 256 := Nat.lt_of_le_of_lt (Nat.div_le_self _ _) (by omega)
theorem flipN_lt {l : List Nat} {bit : Nat} (h : ∀ x ∈ l, x < 256) : ∀ x ∈ flipN l bit, x < 256 := by
  intro x hx
  rcases List.mem_or_eq_of_mem_set hx with hx | rfl
  · exact h x hx
  · refine Nat.xor_lt_two_pow (n := 8) ?_ (pow_bit _ (Nat.mod_lt _ (by omega)))
    rw [List.getD_eq_getElem?_getD]
    cases hg : l[bit / 8]? with
    | none => simp
    | some y => exact h y (List.mem_of_getElem? hg)
/-- how a bit changes the check value of n bytes -/
def effN (n bit : Nat) : Nat := crcN (flipN (List.replicate n 0) bit) 0
theorem effN_lt (n bit : Nat) : effN n bit < 65536 := crcN_lt _ _ (by omega)
theorem eff_two (n bit : Nat) : crcN (List.replicate n 0) 65535 ^^^ crcN (flipN (List.replicate n 0) bit) 65535 = effN n bit := by
  unfold effN crcN
  rw [← crcL_xor _ _ _ _ (by simp [flipN_len]) (by omega) (by omega)]
  have e : (65535 ^^^ 65535 : Nat) = 0 := by decide
  rw [e]
  congr 1
  apply List.ext_getElem
  · simp [flipN_len]
  · intro i h1 h2
    simp
end Go.Proofs.YtfcdienphillnaaGreat
namespace Go.Proofs.YtfcdienphillnaaGreat
set_option linter.unusedVariables false
set_option linter.unusedSimpArgs false
open Go.RowKit

theorem bit_split (bit : Nat) : ∃ k r, bit / 8 = k ∧ bit % 8 = r ∧ r < 8 ∧ bit = 8 * k + r := ⟨bit / 8, bit % 8, rfl, rfl, Nat.mod_lt _ (by omega), by omega⟩
theorem flipN_at {l : List Nat} {bit k r x : Nat} (hk : bit / 8 = k) (hr : bit % 8 = r) (hx : l[k]? = some x) : flipN l bit = l.set k (x ^^^ 128 / 2 ^ r) := by
  unfold flipN; rw [hk, hr, List.getD_eq_getElem?_getD, hx]; rfl
theorem xor_u8 (x y : Nat) (hx : x < 256) (hy : y < 256) : bits .xor .u8 (x : Int) (y : Int) = ((x ^^^ y : Nat) : Int) := by
  have h : x ^^^ y < 2 ^ 8 := Nat.xor_lt_two_pow (by omega) (by omega)
  show IntKind.u8.wrap ((BitVec.ofInt 8 (x : Int) ^^^ BitVec.ofInt 8 (y : Int)).toNat : Int) = _
  rw [BitVec.toNat_xor, BitVec.ofInt_natCast, BitVec.ofInt_natCast, BitVec.toNat_ofNat, BitVec.toNat_ofNat, Nat.mod_eq_of_lt (by omega), Nat.mod_eq_of_lt (by omega), IntKind.wrap_u8]
  omega
theorem xor_sh (x r : Nat) (hx : x < 256) (hr : r < 8) : bits .xor .u8 (x : Int) (128 / 2 ^ r) = ((x ^^^ 128 / 2 ^ r : Nat) : Int) := by
  have := xor_u8 x (128 / 2 ^ r) hx (pow_bit r hr)
  rw [← this]; simp
set_option maxRecDepth 20000 in
set_option maxHeartbeats 1000000 in
theorem flip_s (g c bit : Nat) (l : List Nat) (w : World) (hg : g < w.heap.size) (hB : Buf w g l) (hb : bit < 8 * l.length) (hl : l.length ≤ 1048576) (hlb : ∀ x ∈ l, x < 256) :
    Calls Tryz.prog 171 #[.slice (some ⟨g, 0, none⟩) l.length c, .int .i64 bit] w fun e w' => e = .returned (.tuple #[]) ∧ Buf w' g (flipN l bit) ∧ Chg g (g + 1) w w' ∧ w'.heap.size = w.heap.size := by
  obtain ⟨k, r, hk, hr, hr8, hbit⟩ := bit_split bit
  have hkl : k < l.length := by omega
  obtain ⟨x, hx⟩ : ∃ x, l[k]? = some x := ⟨l[k], List.getElem?_eq_getElem hkl⟩
  obtain ⟨p1, p2⟩ := hB k x hx
  have hx8 := hlb x (List.mem_of_getElem? hx)
  have HS := Lib.hid (hB.set (x ^^^ 128 / 2 ^ r) hx)
  rw [← flipN_at hk hr hx] at HS
  have e1 : ((bit : Int) / 8) = (k : Int) := by omega
  have e2 : ((bit : Int) % 8) = (r : Int) := by omega
  have hxs := xor_sh x r hx8 hr8
  clear hx hB hlb hk hr hbit
  go_enter Tryz.func171, Tryz.ntmps171
  go_wp2
  exact bodyPost_end (results_none rfl _ _ _) rfl ⟨rfl, HS.out, ⟨rfl, rfl, rfl, by simp, fun i hi hne => Below.heap_setCell _ _ _ i (by rintro rfl; exact hne ⟨Nat.le_refl _, Nat.lt_succ_self _⟩)⟩, by simp⟩
set_option maxRecDepth 20000 in
set_option maxHeartbeats 1000000 in
theorem flip_i (s : ByteArray) (bit : Nat) (w : World) (hb : bit < 8 * s.size) (hs : s.size ≤ 1048576) :
    Calls Tryz.prog 216 #[.string s, .int .i64 bit] w fun e w' => e = .returned (.string (strN (flipN (bts s) bit))) ∧ Below w.heap.size w w' := by
  obtain ⟨c, wb, hcv, hbuf, hb0, hwz⟩ := buf_of_str w s
  obtain ⟨k, r, hk, hr, hr8, hbit⟩ := bit_split bit
  have hl := bts_len s
  have hkl : k < s.size := by omega
  have hx := bts_get hkl
  obtain ⟨p1, p2⟩ := hbuf k _ hx
  have hx8 := UInt8.toNat_lt s[k]
  generalize s[k].toNat = x at *
  have HS := Lib.hid (hbuf.set (x ^^^ 128 / 2 ^ r) hx)
  rw [← flipN_at hk hr hx] at HS
  have e1 : ((bit : Int) / 8) = (k : Int) := by omega
  have e2 : ((bit : Int) % 8) = (r : Int) := by omega
  have hxs := xor_sh x r hx8 hr8
  have hst := (HS.out.block (w' := (wb.setCell ⟨w.heap.size, k, none⟩ (.int .u8 ((x ^^^ 128 / 2 ^ r : Nat) : Int))).drew) rfl).str (n := s.size) (c := c) (by rw [flipN_len, hl])
  have e3 : ((bit : Int).tmod 8) = (r : Int) := by rw [Int.tmod_eq_emod_of_nonneg (by omega)]; omega
  have hww : IntKind.i64.wrap (k : Int) = k := by rw [IntKind.wrap_i64]; omega
  have hwr : IntKind.i64.wrap (r : Int) = r := by rw [IntKind.wrap_i64]; omega
  clear hx hbuf hk hr hbit
  go_enter Tryz.func216, Tryz.ntmps216
  go_wp2
  have q1 := (show ({ wb with drawn := wb.drawn + 1 } : World).cell? _ = _ from p1)
  have q2 := (show ({ wb with drawn := wb.drawn + 1 } : World).frozen? _ = _ from p2)
  go_still_tail 10, (by kernel_rfl)
  go_wp2
  go_ret
  exact ⟨rfl, (by repeat (first | exact Below.refl _ _ | refine Below.alloc ?_ (by first | omega | (simp; done) | (simp; omega)) _ | apply Below.drew | apply below_drewN | refine Below.setCell ?_ (by first | omega | (simp; done) | (simp; omega)) _ | refine Below.trans ?_ (Below.mono (by assumption) (by first | omega | (simp; done) | (simp; omega)))))⟩
theorem crcn_i (s : ByteArray) (v : Nat) (w : World) (hs : s.size ≤ 2097152) (hv : v < 65536) :
    Calls Tryz.prog 122 #[.string s, .int .i64 v] w fun e w' => e = .returned (.int .i64 (crcN (bts s) v)) ∧ w = w' := by
  rw [← crcN_bts]; exact crc_i s v w hs hv
theorem bts_zero (n : Nat) : bts (strN (List.replicate n 0)) = List.replicate n 0 := bts_strN (by intro x h; obtain ⟨_, rfl⟩ := List.mem_replicate.1 h; omega)
theorem zero_lt (n : Nat) : ∀ x ∈ List.replicate n 0, x < 256 := by intro x h; obtain ⟨_, rfl⟩ := List.mem_replicate.1 h; omega
set_option maxHeartbeats 1000000 in
theorem eff_i (n bit : Nat) (w : World) (hn : n ≤ 64) (hb : bit < 8 * n) :
    Calls Tryz.prog 206 #[.int .i64 n, .int .i64 bit] w fun e w' => e = .returned (.int .i64 (effN n bit)) ∧ Below w.heap.size w w' := by
  have H1 := fun w => flip_i (strN (List.replicate n 0)) bit w (by rw [strN_size]; simp; omega) (by rw [strN_size]; simp; omega)
  rw [bts_zero] at H1
  have H2 := fun w => crcn_i (strN (flipN (List.replicate n 0) bit)) 0 w (by rw [strN_size, flipN_len]; simp; omega) (by omega)
  rw [bts_strN (flipN_lt (zero_lt n))] at H2
  have HX1 := Lib.hid H1
  have HX2 := Lib.hid H2
  clear H1 H2
  have HE : Hid (effN n bit = crcN (flipN (List.replicate n 0) bit) 0) := Lib.hid rfl
  go_enter Tryz.func206, Tryz.ntmps206
  go_wp2_with (fail)
  refine (zeros_i n _ (by omega)).mono ?_; rintro e w1 ⟨rfl, hb1⟩
  go_wp2_with (fail)
  refine (HX1.out _).mono ?_; rintro e w2 ⟨rfl, hb2⟩
  go_wp2_with (fail)
  refine (HX2.out _).mono ?_; rintro e w3 ⟨rfl, rfl⟩
  have z1 := hb1.size
  go_wp2
  go_ret
  exact ⟨ret_int (by rw [HE.out]), (by repeat (first | exact Below.refl _ _ | refine Below.alloc ?_ (by first | omega | (simp; done) | (simp; omega)) _ | apply Below.drew | apply below_drewN | refine Below.setCell ?_ (by first | omega | (simp; done) | (simp; omega)) _ | refine Below.trans ?_ (Below.mono (by assumption) (by first | omega | (simp; done) | (simp; omega)))))⟩
set_option maxHeartbeats 1000000 in
theorem crcb_s (g c n : Nat) (l : List Nat) (w : World) (hB : Buf w g l) (hn : l.length = n) (hl : n ≤ 1048576) (hlb : ∀ x ∈ l, x < 256) :
    Calls Tryz.prog 202 #[.slice (some ⟨g, 0, none⟩) n c] w fun e w' => e = .returned (.int .i64 (crcN l 65535)) ∧ w = w' := by
  have hst := hB.str (n := n) (c := c) hn
  have H2 := crc_s (strN l) 65535 w (by rw [strN_size]; omega) (by omega)
  rw [crcN_strN] at H2
  have b0 : inB 65535 0 65535 = true := by decide
  clear hB
  go_enter Tryz.func202, Tryz.ntmps202
  go_wp2_with (first | (go_at_call 43; refine (in_s _ _ _ _).mono ?_; rintro e w1 ⟨rfl, rfl⟩) | (go_at_call 72; refine H2.mono ?_; rintro e w1 ⟨rfl, rfl⟩) | go_in)
  go_ret
  exact ⟨rfl, rfl⟩
set_option maxHeartbeats 1000000 in
theorem eff_s (n bit : Nat) (w : World) (hn : n ≤ 64) (hb : bit < 8 * n) :
    Calls Tryz.prog 203 #[.int .i64 n, .int .i64 bit] w fun e w' => e = .returned (.int .i64 (effN n bit)) ∧ Below w.heap.size w w' := by
  obtain ⟨wa, hm1, hba, hb1, hz1⟩ := buf_made w n (by omega)
  have lr : (List.replicate n 0).length = n := by simp
  have H1 := flip_s w.heap.size n bit (List.replicate n 0) wa (by omega) hba (by omega) (by omega) (zero_lt n)
  rw [lr] at H1
  have hc1 := crcN_lt (List.replicate n 0) 65535 (by omega)
  have hc2 := crcN_lt (flipN (List.replicate n 0) bit) 65535 (by omega)
  have hx := i64_xor_nat _ _ (Nat.lt_trans hc1 (by omega)) (Nat.lt_trans hc2 (by omega))
  rw [eff_two] at hx
  have HC := Lib.hid (crcb_s w.heap.size n n (List.replicate n 0) wa hba lr (by omega) (zero_lt n))
  go_enter Tryz.func203, Tryz.ntmps203
  go_wp2_with (fail)
  refine HC.out.mono ?_; rintro e w2 ⟨rfl, rfl⟩
  go_wp2_with (fail)
  refine H1.mono ?_; rintro e w3 ⟨rfl, k3, c3, s3⟩
  go_wp2_with (fail)
  refine (crcb_s w.heap.size n n _ w3 k3 (by rw [flipN_len]; exact lr) (by omega) (flipN_lt (zero_lt n))).mono ?_; rintro e w4 ⟨rfl, rfl⟩
  go_wp2
  go_ret
  exact ⟨rfl, hb1.trans ⟨c3.os, c3.tape, c3.output, c3.size, fun j hj => c3.block j (by omega) (by omega)⟩⟩
end Go.Proofs.YtfcdienphillnaaGreat
