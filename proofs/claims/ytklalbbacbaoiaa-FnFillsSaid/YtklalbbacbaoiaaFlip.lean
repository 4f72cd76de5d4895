/- flipped, crcEffect, l25Flip, l25Effect: the walks. -/
import Derived.Test.YtklalbbacbaoiaaCrcLin
import Derived.Test.YtklalbbacbaoiaaZeros
import Derived.Test.YtklalbbacbaoiaaWord
namespace Go.Proofs.Ytklalbbacbaoiaa
set_option linter.unusedVariables false
open Go.RowKit

theorem bit_split (bit : Nat) : ∃ k r, bit / 8 = k ∧ bit % 8 = r ∧ r < 8 ∧ bit = 8 * k + r := ⟨bit / 8, bit % 8, rfl, rfl, Nat.mod_lt _ (by omega), by omega⟩
theorem flipN_at {l : List Nat} {bit k r x : Nat} (hk : bit / 8 = k) (hr : bit % 8 = r) (hx : l[k]? = some x) : flipN l bit = l.set k (x ^^^ 128 / 2 ^ r) := by
  unfold flipN; rw [hk, hr, List.getD_eq_getElem?_getD, hx]; rfl
theorem xor_u8 (x y : Nat) (hx : x < 256) (hy : y < 256) : bits .xor .u8 (x : Int) (y : Int) = ((x ^^^ y : Nat) : Int) := by
  have h : x ^^^ y < 2 ^ 8 := Nat.xor_lt_two_pow (by omega) (by omega)
  show IntKind.u8.wrap ((BitVec.ofInt 8 (x : Int) ^^^ BitVec.ofInt 8 (y : Int)).toNat : Int) = _
  rw [BitVec.toNat_xor, BitVec.ofInt_natCast, BitVec.ofInt_natCast, BitVec.toNat_ofNat, BitVec.toNat_ofNat, Nat.mod_eq_of_lt (by omega), Nat.mod_eq_of_lt (by omega), IntKind.wrap_u8]
  omega
theorem xor_sh (x r : Nat) (hx : x < 256) (hr : r < 8) : bits .xor .u8 (x : Int) (128 / 2 ^ r) = ((x ^^^ 128 / 2 ^ r : Nat) : Int) := by
  have := xor_u8 x (128 / 2 ^ r) hx (pow_bit r hr)
  rw [← this]; simp
set_option maxRecDepth 20000 in
set_option maxHeartbeats 1000000 in
theorem flip_s (g c bit : Nat) (l : List Nat) (w : World) (hg : g < w.heap.size) (hB : Buf w g l) (hb : bit < 8 * l.length) (hl : l.length ≤ 1048576) (hlb : ∀ x ∈ l, x < 256) :
    Calls Try.prog 63 #[.slice (some ⟨g, 0, none⟩) l.length c, .int .i64 bit] w fun e w' => e = .returned (.tuple #[]) ∧ Buf w' g (flipN l bit) ∧ Chg g (g + 1) w w' ∧ w'.heap.size = w.heap.size := by
  obtain ⟨k, r, hk, hr, hr8, hbit⟩ := bit_split bit
  have hkl : k < l.length := by omega
  obtain ⟨x, hx⟩ : ∃ x, l[k]? = some x := ⟨l[k], List.getElem?_eq_getElem hkl⟩
  obtain ⟨p1, p2⟩ := hB k x hx
  have hx8 := hlb x (List.mem_of_getElem? hx)
  have HS := Lib.hid (hB.set (x ^^^ 128 / 2 ^ r) hx)
  rw [← flipN_at hk hr hx] at HS
  have e1 : ((bit : Int) / 8) = (k : Int) := by omega
  have e2 : ((bit : Int) % 8) = (r : Int) := by omega
  have hxs := xor_sh x r hx8 hr8
  clear hx hB hlb hk hr hbit
  go_enter Try.func63, Try.ntmps63
  go_wp2
  exact bodyPost_end (results_none rfl _ _ _) rfl ⟨rfl, HS.out, ⟨rfl, rfl, rfl, by simp, fun i hi hne => Below.heap_setCell _ _ _ i (by rintro rfl; exact hne ⟨Nat.le_refl _, Nat.lt_succ_self _⟩)⟩, by simp⟩
set_option maxRecDepth 20000 in
set_option maxHeartbeats 1000000 in
theorem flip_i (s : ByteArray) (bit : Nat) (w : World) (hb : bit < 8 * s.size) (hs : s.size ≤ 1048576) :
    Calls Try.prog 86 #[.string s, .int .i64 bit] w fun e w' => e = .returned (.string (strN (flipN (bts s) bit))) ∧ Below w.heap.size w w' := by
  obtain ⟨c, wb, hcv, hbuf, hb0, hwz⟩ := buf_of_str w s
  obtain ⟨k, r, hk, hr, hr8, hbit⟩ := bit_split bit
  have hl := bts_len s
  have hkl : k < s.size := by omega
  have hx := bts_get hkl
  obtain ⟨p1, p2⟩ := hbuf k _ hx
  have hx8 := UInt8.toNat_lt s[k]
  generalize s[k].toNat = x at *
  have HS := Lib.hid (hbuf.set (x ^^^ 128 / 2 ^ r) hx)
  rw [← flipN_at hk hr hx] at HS
  have e1 : ((bit : Int) / 8) = (k : Int) := by omega
  have e2 : ((bit : Int) % 8) = (r : Int) := by omega
  have hxs := xor_sh x r hx8 hr8
  have hst := (HS.out.block (w' := (wb.setCell ⟨w.heap.size, k, none⟩ (.int .u8 ((x ^^^ 128 / 2 ^ r : Nat) : Int))).drew) rfl).str (n := s.size) (c := c) (by rw [flipN_len, hl])
  have e3 : ((bit : Int).tmod 8) = (r : Int) := by rw [Int.tmod_eq_emod_of_nonneg (by omega)]; omega
  have hww : IntKind.i64.wrap (k : Int) = k := by rw [IntKind.wrap_i64]; omega
  have hwr : IntKind.i64.wrap (r : Int) = r := by rw [IntKind.wrap_i64]; omega
  clear hx hbuf hk hr hbit
  go_enter Try.func86, Try.ntmps86
  go_wp2
  have q1 := (show ({ wb with drawn := wb.drawn + 1 } : World).cell? _ = _ from p1)
  have q2 := (show ({ wb with drawn := wb.drawn + 1 } : World).frozen? _ = _ from p2)
  go_still_tail 10, (by kernel_rfl)
  go_wp2
  go_ret
  exact ⟨rfl, (by repeat (first | exact Below.refl _ _ | refine Below.alloc ?_ (by first | omega | (simp; done) | (simp; omega)) _ | apply Below.drew | apply below_drewN | refine Below.setCell ?_ (by first | omega | (simp; done) | (simp; omega)) _ | refine Below.trans ?_ (Below.mono (by assumption) (by first | omega | (simp; done) | (simp; omega)))))⟩
theorem crcn_i (s : ByteArray) (v : Nat) (w : World) (hs : s.size ≤ 2097152) (hv : v < 65536) :
    Calls Try.prog 62 #[.string s, .int .i64 v] w fun e w' => e = .returned (.int .i64 (crcN (bts s) v)) ∧ w = w' := by
  rw [← crcN_bts]; exact crc_i s v w hs hv
theorem bts_zero (n : Nat) : bts (strN (List.replicate n 0)) = List.replicate n 0 := bts_strN (by intro x h; obtain ⟨_, rfl⟩ := List.mem_replicate.1 h; omega)
theorem zero_lt (n : Nat) : ∀ x ∈ List.replicate n 0, x < 256 := by intro x h; obtain ⟨_, rfl⟩ := List.mem_replicate.1 h; omega
set_option maxHeartbeats 1000000 in
theorem eff_i (n bit : Nat) (w : World) (hn : n ≤ 64) (hb : bit < 8 * n) :
    Calls Try.prog 58 #[.int .i64 n, .int .i64 bit] w fun e w' => e = .returned (.int .i64 (effN n bit)) ∧ Below w.heap.size w w' := by
  have H1 := fun w => flip_i (strN (List.replicate n 0)) bit w (by rw [strN_size]; simp; omega) (by rw [strN_size]; simp; omega)
  rw [bts_zero] at H1
  have H2 := fun w => crcn_i (strN (flipN (List.replicate n 0) bit)) 0 w (by rw [strN_size, flipN_len]; simp; omega) (by omega)
  rw [bts_strN (flipN_lt (zero_lt n))] at H2
  have HX1 := Lib.hid H1
  have HX2 := Lib.hid H2
  clear H1 H2
  have HE : Hid (effN n bit = crcN (flipN (List.replicate n 0) bit) 0) := Lib.hid rfl
  go_enter Try.func58, Try.ntmps58
  go_wp2_with (fail)
  refine (zeros_i n _ (by omega)).mono ?_; rintro e w1 ⟨rfl, hb1⟩
  go_wp2_with (fail)
  refine (HX1.out _).mono ?_; rintro e w2 ⟨rfl, hb2⟩
  go_wp2_with (fail)
  refine (HX2.out _).mono ?_; rintro e w3 ⟨rfl, rfl⟩
  have z1 := hb1.size
  go_wp2
  go_ret
  exact ⟨ret_int (by rw [HE.out]), (by repeat (first | exact Below.refl _ _ | refine Below.alloc ?_ (by first | omega | (simp; done) | (simp; omega)) _ | apply Below.drew | apply below_drewN | refine Below.setCell ?_ (by first | omega | (simp; done) | (simp; omega)) _ | refine Below.trans ?_ (Below.mono (by assumption) (by first | omega | (simp; done) | (simp; omega)))))⟩
set_option maxHeartbeats 1000000 in
theorem crcb_s (g c n : Nat) (l : List Nat) (w : World) (hB : Buf w g l) (hn : l.length = n) (hl : n ≤ 1048576) (hlb : ∀ x ∈ l, x < 256) :
    Calls Try.prog 60 #[.slice (some ⟨g, 0, none⟩) n c] w fun e w' => e = .returned (.int .i64 (crcN l 65535)) ∧ w = w' := by
  have hst := hB.str (n := n) (c := c) hn
  have H2 := crc_s (strN l) 65535 w (by rw [strN_size]; omega) (by omega)
  rw [crcN_strN] at H2
  have b0 : inB 65535 0 65535 = true := by decide
  clear hB
  go_enter Try.func60, Try.ntmps60
  go_wp2_with (first | (go_at_call 51; refine (in_s _ _ _ _).mono ?_; rintro e w1 ⟨rfl, rfl⟩) | (go_at_call 101; refine H2.mono ?_; rintro e w1 ⟨rfl, rfl⟩) | go_in)
  go_ret
  exact ⟨rfl, rfl⟩
set_option maxHeartbeats 1000000 in
theorem eff_s (n bit : Nat) (w : World) (hn : n ≤ 64) (hb : bit < 8 * n) :
    Calls Try.prog 57 #[.int .i64 n, .int .i64 bit] w fun e w' => e = .returned (.int .i64 (effN n bit)) ∧ Below w.heap.size w w' := by
  obtain ⟨wa, hm1, hba, hb1, hz1⟩ := buf_made w n (by omega)
  have lr : (List.replicate n 0).length = n := by simp
  have H1 := flip_s w.heap.size n bit (List.replicate n 0) wa (by omega) hba (by omega) (by omega) (zero_lt n)
  rw [lr] at H1
  have hc1 := crcN_lt (List.replicate n 0) 65535 (by omega)
  have hc2 := crcN_lt (flipN (List.replicate n 0) bit) 65535 (by omega)
  have hx := i64_xor_nat _ _ (Nat.lt_trans hc1 (by omega)) (Nat.lt_trans hc2 (by omega))
  rw [eff_two] at hx
  have HC := Lib.hid (crcb_s w.heap.size n n (List.replicate n 0) wa hba lr (by omega) (zero_lt n))
  go_enter Try.func57, Try.ntmps57
  go_wp2_with (fail)
  refine HC.out.mono ?_; rintro e w2 ⟨rfl, rfl⟩
  go_wp2_with (fail)
  refine H1.mono ?_; rintro e w3 ⟨rfl, k3, c3, s3⟩
  go_wp2_with (fail)
  refine (crcb_s w.heap.size n n _ w3 k3 (by rw [flipN_len]; exact lr) (by omega) (flipN_lt (zero_lt n))).mono ?_; rintro e w4 ⟨rfl, rfl⟩
  go_wp2
  go_ret
  exact ⟨rfl, hb1.trans ⟨c3.os, c3.tape, c3.output, c3.size, fun j hj => c3.block j (by omega) (by omega)⟩⟩
end Go.Proofs.Ytklalbbacbaoiaa
