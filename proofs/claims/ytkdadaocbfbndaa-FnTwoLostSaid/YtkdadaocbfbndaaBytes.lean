/- xorBytes, scaled, l23Plus: the walks. -/
import Derived.Test.YtkdadaocbfbndaaBuf
import Derived.Test.YtkdadaocbfbndaaGfLaw
namespace Go.Proofs.Ytkdadaocbfbndaa
set_option linter.unusedVariables false
open Go.RowKit

/-- r up to k, l from there -/
def upd (l r : List Nat) (k : Nat) : List Nat := r.take k ++ l.drop k
theorem upd_zero (l r : List Nat) : upd l r 0 = l := by simp [upd]
theorem upd_end {l r : List Nat} {k : Nat} (h : r.length = l.length) (hk : l.length ≤ k) : upd l r k = r := by
  unfold upd; rw [List.take_of_length_le (by omega), List.drop_of_length_le hk, List.append_nil]
theorem upd_len {l r : List Nat} (h : r.length = l.length) (k : Nat) : (upd l r k).length = l.length := by
  simp [upd]; omega
theorem upd_get {l r : List Nat} {k : Nat} (h : r.length = l.length) (hk : k < l.length) : (upd l r k)[k]? = l[k]? := by
  unfold upd
  have e : (r.take k).length = k := by simp; omega
  rw [List.getElem?_append_right (by omega), e, Nat.sub_self, List.getElem?_drop, Nat.add_zero]
theorem upd_set {l r : List Nat} {k x : Nat} (h : r.length = l.length) (hk : r[k]? = some x) : (upd l r k).set k x = upd l r (k + 1) := by
  obtain ⟨hk', rfl⟩ := List.getElem?_eq_some_iff.1 hk
  unfold upd
  have e : (r.take k).length = k := by simp; omega
  have ed : l.drop k = l[k]'(by omega) :: l.drop (k + 1) := List.drop_eq_getElem_cons (by omega)
  rw [List.set_append_right _ _ (by omega), e, Nat.sub_self, ed, List.set_cons_zero, List.take_succ_eq_append_getElem hk', List.append_assoc]
  rfl
def xorN (a b : List Nat) : List Nat := List.zipWith (· ^^^ ·) a b
def scN (f : Nat) (a : List Nat) : List Nat := a.map fun x => gmul x f 0
def plusN (a : List Nat) (f : Nat) (b : List Nat) : List Nat := List.zipWith (fun x y => x ^^^ gmul y f 0) a b
theorem xorN_len {a b : List Nat} (h : a.length ≤ b.length) : (xorN a b).length = a.length := by simp [xorN]; omega
theorem plusN_len {a b : List Nat} {f : Nat} (h : a.length ≤ b.length) : (plusN a f b).length = a.length := by simp [plusN]; omega
theorem scN_len (f : Nat) (a : List Nat) : (scN f a).length = a.length := by simp [scN]
theorem xorN_get {a b : List Nat} {k x y : Nat} (hx : a[k]? = some x) (hy : b[k]? = some y) : (xorN a b)[k]? = some (x ^^^ y) := by
  simp [xorN, List.getElem?_zipWith, hx, hy]
theorem plusN_get {a b : List Nat} {f k x y : Nat} (hx : a[k]? = some x) (hy : b[k]? = some y) : (plusN a f b)[k]? = some (x ^^^ gmul y f 0) := by
  simp [plusN, List.getElem?_zipWith, hx, hy]
theorem scN_get {a : List Nat} {f k x : Nat} (hx : a[k]? = some x) : (scN f a)[k]? = some (gmul x f 0) := by
  simp [scN, hx]
theorem xor_u8 (x y : Nat) (hx : x < 256) (hy : y < 256) : bits .xor .u8 (x : Int) (y : Int) = ((x ^^^ y : Nat) : Int) := by
  have h : x ^^^ y < 2 ^ 8 := Nat.xor_lt_two_pow (by omega) (by omega)
  show IntKind.u8.wrap ((BitVec.ofInt 8 (x : Int) ^^^ BitVec.ofInt 8 (y : Int)).toNat : Int) = _
  rw [BitVec.toNat_xor, BitVec.ofInt_natCast, BitVec.ofInt_natCast, BitVec.toNat_ofNat, BitVec.toNat_ofNat, Nat.mod_eq_of_lt (by omega), Nat.mod_eq_of_lt (by omega), IntKind.wrap_u8]
  omega
theorem xorN_lt {a b : List Nat} (ha : ∀ x ∈ a, x < 256) (hb : ∀ x ∈ b, x < 256) : ∀ x ∈ xorN a b, x < 256 := by
  intro x h
  obtain ⟨k, hk, rfl⟩ := List.mem_iff_getElem.1 h
  simp only [xorN, List.getElem_zipWith]
  exact Nat.xor_lt_two_pow (n := 8) (ha _ (List.getElem_mem _)) (hb _ (List.getElem_mem _))
theorem scN_lt {f : Nat} {a : List Nat} (ha : ∀ x ∈ a, x < 256) : ∀ x ∈ scN f a, x < 256 := by
  intro x h
  simp only [scN, List.mem_map] at h
  obtain ⟨y, hy, rfl⟩ := h
  exact gmul_lt (ha y hy) (by omega)
theorem plusN_lt {f : Nat} {a b : List Nat} (ha : ∀ x ∈ a, x < 256) (hb : ∀ x ∈ b, x < 256) : ∀ x ∈ plusN a f b, x < 256 := by
  intro x h
  obtain ⟨k, hk, rfl⟩ := List.mem_iff_getElem.1 h
  simp only [plusN, List.getElem_zipWith]
  exact Nat.xor_lt_two_pow (n := 8) (ha _ (List.getElem_mem _)) (gmul_lt (hb _ (List.getElem_mem _)) (by omega))

set_option maxRecDepth 20000 in
set_option maxHeartbeats 1000000 in
theorem xor_i (a b : ByteArray) (w : World) (hs : a.size ≤ b.size) (hb : b.size ≤ 2097152) :
    Calls Try.prog 41 #[.string a, .string b] w fun e w' => e = .returned (.string (strN (xorN (bts a) (bts b)))) ∧ Below w.heap.size w w' := by
  obtain ⟨c, wb, hcv, hbuf, hb0, hwz⟩ := buf_of_str w a
  have hl := bts_len a
  have hl' := bts_len b
  have hxl : (xorN (bts a) (bts b)).length = (bts a).length := xorN_len (by omega)
  go_enter Try.func41, Try.ntmps41
  go_wp2
  go_loopw [11] (fun i wr => ∃ k : Nat, k ≤ a.size ∧ i = .int .i64 k ∧ Below w.heap.size w wr ∧ wr.heap.size = w.heap.size + 1 ∧ Buf wr w.heap.size (upd (bts a) (xorN (bts a) (bts b)) k)) (fun i _ => a.size - (intOf i).toNat)
  case atStart => exact ⟨0, by omega, rfl, hb0, hwz, by rw [upd_zero]; exact hbuf⟩
  case round =>
    obtain ⟨k, hk, rfl, hbw, hz, HB⟩ := hrel
    by_cases hlt : k < a.size
    · have g1 := bts_get hlt
      have g2 := bts_get (s := b) (k := k) (by omega)
      have hu := upd_get (k := k) hxl (by omega)
      rw [g1] at hu
      obtain ⟨p1, p2⟩ := HB k _ hu
      have HS := Lib.hid (HB.set (a[k].toNat ^^^ b[k].toNat) hu)
      rw [upd_set hxl (xorN_get g1 g2)] at HS
      have hx := xor_u8 a[k].toNat b[k].toNat (UInt8.toNat_lt _) (UInt8.toNat_lt _)
      clear HB hu g1 g2
      have hkb : k < b.size := by omega
      go_wp2_with (fail)
      have q1 := (show ({ wr with drawn := wr.drawn + 1 } : World).cell? _ = _ from p1)
      have q2 := (show ({ wr with drawn := wr.drawn + 1 } : World).frozen? _ = _ from p2)
      go_still_tail 9, (by kernel_rfl)
      go_wp2
      go_roundw
      case rel => exact ⟨k + 1, by omega, by go_num, (by repeat (first | exact Below.refl _ _ | refine Below.alloc ?_ (by first | omega | (simp; done) | (simp; omega)) _ | apply Below.drew | apply below_drewN | refine Below.setCell ?_ (by first | omega | (simp; done) | (simp; omega)) _ | refine Below.trans ?_ (Below.mono (by assumption) (by first | omega | (simp; done) | (simp; omega))))), by simpa using hz, HS.out⟩
      case measure => simp [intOf]; omega
    · have hst := HB.str (n := a.size) (c := c) (by rw [upd_len hxl]; omega)
      rw [upd_end hxl (by omega)] at hst
      go_wp2
      go_ret
      exact ⟨rfl, (by repeat (first | exact Below.refl _ _ | refine Below.alloc ?_ (by first | omega | (simp; done) | (simp; omega)) _ | apply Below.drew | apply below_drewN | refine Below.setCell ?_ (by first | omega | (simp; done) | (simp; omega)) _ | refine Below.trans ?_ (Below.mono (by assumption) (by first | omega | (simp; done) | (simp; omega)))))⟩

theorem wrap_u8_nat (x : Nat) (h : x < 256) : (x : Int) % 256 = x := by omega
theorem still_c {P : Program} {f : FuncId} {args : Array Value} {w : World} {v : Value} (h : Calls P f args w fun e w' => e = .returned v ∧ w = w') : Calls P f args w fun e w' => e = .returned v ∧ w' = w :=
  h.mono fun _ _ ⟨a, b⟩ => ⟨a, b.symm⟩
end Go.Proofs.Ytkdadaocbfbndaa
