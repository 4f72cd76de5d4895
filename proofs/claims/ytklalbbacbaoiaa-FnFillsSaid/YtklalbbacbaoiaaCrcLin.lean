/- The check value is linear: plain laws. -/
import Derived.Test.YtklalbbacbaoiaaCrc
import Derived.Test.YtklalbbacbaoiaaBuf
namespace Go.Proofs.Ytklalbbacbaoiaa
set_option linter.unusedVariables false
open Go.RowKit

theorem nx4 (a b c d : Nat) : (a ^^^ b) ^^^ (c ^^^ d) = (a ^^^ c) ^^^ (b ^^^ d) := by
  rw [Nat.xor_assoc, ← Nat.xor_assoc b c d, Nat.xor_comm b c, Nat.xor_assoc c b d, ← Nat.xor_assoc a c]
theorem top_is (v : Nat) (h : v < 65536) : decide (32768 ≤ v) = v.testBit 15 := by
  rw [Nat.testBit_eq_decide_div_mod_eq]
  apply decide_eq_decide.2
  omega
theorem dbl_xor (x y : Nat) : (x ^^^ y) * 2 % 65536 = (x * 2 % 65536) ^^^ (y * 2 % 65536) := by
  have h : ∀ z : Nat, z * 2 % 65536 = (z <<< 1) % 2 ^ 16 := fun z => by rw [Nat.shiftLeft_eq]
  rw [h, h, h, Nat.shiftLeft_xor_distrib, Nat.xor_mod_two_pow]
theorem crcBit_is (v : Nat) (b : Bool) (h : v < 65536) : crcBit v b = (v * 2 % 65536) ^^^ (if (v.testBit 15) != b then 4129 else 0) := by
  unfold crcBit
  rw [top_is v h]
  split <;> simp
theorem crcBit_xor (x y : Nat) (a b : Bool) (hx : x < 65536) (hy : y < 65536) : crcBit (x ^^^ y) (a ^^ b) = crcBit x a ^^^ crcBit y b := by
  rw [crcBit_is x a hx, crcBit_is y b hy, crcBit_is _ _ (Nat.xor_lt_two_pow (n := 16) hx hy), nx4, dbl_xor, Nat.testBit_xor]
  congr 1
  cases x.testBit 15 <;> cases y.testBit 15 <;> cases a <;> cases b <;> rfl
theorem crcK_xor (x y : Nat) (c d : UInt8) (j : Nat) (hx : x < 65536) (hy : y < 65536) : crcK (x ^^^ y) (c ^^^ d) j = crcK x c j ^^^ crcK y d j := by
  induction j with
  | zero => rfl
  | succ j ih =>
    rw [crcK, crcK, crcK, ih, ← crcBit_xor _ _ _ _ (crcK_lt _ _ _ hx) (crcK_lt _ _ _ hy), UInt8.toNat_xor, Nat.testBit_xor]
theorem crcL_xor (l m : List UInt8) (a b : Nat) (h : l.length = m.length) (ha : a < 65536) (hb : b < 65536) : crcL (List.zipWith (· ^^^ ·) l m) (a ^^^ b) = crcL l a ^^^ crcL m b := by
  induction l generalizing m a b with
  | nil =>
    cases m with
    | nil => rfl
    | cons d m => simp at h
  | cons c l ih =>
    cases m with
    | nil => simp at h
    | cons d m =>
      have := ih m (crcK a c 8) (crcK b d 8) (by simpa using h) (crcK_lt _ _ _ ha) (crcK_lt _ _ _ hb)
      rw [← crcK_xor _ _ _ _ _ ha hb] at this
      simpa [crcL] using this
/-- the check value of bytes -/
def crcN (l : List Nat) (v : Nat) : Nat := crcL (l.map UInt8.ofNat) v
theorem crcN_lt (l : List Nat) (v : Nat) (h : v < 65536) : crcN l v < 65536 := crcL_lt _ _ h
theorem crcN_strN (l : List Nat) (v : Nat) : crcL (strN l).data.toList v = crcN l v := by
  unfold crcN strN
  rw [strOfNums_data, List.map_map]
  rfl
theorem crcN_bts (s : ByteArray) (v : Nat) : crcL s.data.toList v = crcN (bts s) v := by
  rw [← crcN_strN, strN_bts]
/-- the bytes with a bit changed -/
def flipN (l : List Nat) (bit : Nat) : List Nat := l.set (bit / 8) (l.getD (bit / 8) 0 ^^^ 128 / 2 ^ (bit % 8))
theorem flipN_len (l : List Nat) (bit : Nat) : (flipN l bit).length = l.length := by simp [flipN]
theorem pow_bit (k : Nat) (h : k < 8) : 128 / 2 ^ k < 256 := Nat.lt_of_le_of_lt (Nat.div_le_self _ _) (by omega)
theorem flipN_lt {l : List Nat} {bit : Nat} (h : ∀ x ∈ l, x < 256) : ∀ x ∈ flipN l bit, x < 256 := by
  intro x hx
  rcases List.mem_or_eq_of_mem_set hx with hx | rfl
  · exact h x hx
  · refine Nat.xor_lt_two_pow (n := 8) ?_ (pow_bit _ (Nat.mod_lt _ (by omega)))
    rw [List.getD_eq_getElem?_getD]
    cases hg : l[bit / 8]? with
    | none => simp
    | some y => exact h y (List.mem_of_getElem? hg)
/-- how a bit changes the check value of n bytes -/
def effN (n bit : Nat) : Nat := crcN (flipN (List.replicate n 0) bit) 0
theorem effN_lt (n bit : Nat) : effN n bit < 65536 := crcN_lt _ _ (by omega)
theorem eff_two (n bit : Nat) : crcN (List.replicate n 0) 65535 ^^^ crcN (flipN (List.replicate n 0) bit) 65535 = effN n bit := by
  unfold effN crcN
  rw [← crcL_xor _ _ _ _ (by simp [flipN_len]) (by omega) (by omega)]
  have e : (65535 ^^^ 65535 : Nat) = 0 := by decide
  rw [e]
  congr 1
  apply List.ext_getElem
  · simp [flipN_len]
  · intro i h1 h2
    simp
end Go.Proofs.Ytklalbbacbaoiaa
