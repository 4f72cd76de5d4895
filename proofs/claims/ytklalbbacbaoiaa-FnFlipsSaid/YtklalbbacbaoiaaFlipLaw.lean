/- Plain laws of flips and bursts. -/
import Derived.Test.YtklalbbacbaoiaaA2U
import Derived.Test.YtklalbbacbaoiaaFindF
import Derived.Test.YtklalbbacbaoiaaBurI
namespace Go.Proofs.Ytklalbbacbaoiaa
set_option linter.unusedVariables false
open Go.RowKit
theorem eff_ne {n bit : Nat} (hb : bit < 8 * n) : effN n bit ≠ 0 := by
  intro h0
  have hl : (List.replicate n 0).length = n := by simp
  have h1 := flip_crc (l := List.replicate n 0) (b := bit) (v := 65535) (by rw [hl]; exact hb) (by omega)
  rw [hl, h0, Nat.xor_zero] at h1
  have hlt : ∀ x ∈ List.replicate n 0, x < 256 := fun x hx => by rw [(List.mem_replicate.1 hx).2]; decide
  have h2 := one_uniq (a := bit / 8) (by rw [flipN_len]) (flipN_lt hlt) hlt (by rw [flipN_len, hl]; omega) (fun j hj => by rw [flipN, getD_set (by rw [hl]; omega), if_neg (Ne.symm hj)]) h1
  have h3 := bitAt_flip (l := List.replicate n 0) (b := bit) bit (by rw [hl]; exact hb)
  rw [h2] at h3
  simp at h3
theorem ffL_found {n wn : Nat} {b : Nat} : ∀ m k, ffL n wn (b : Int) k m = (0, 11) ∨ ffL n wn (b : Int) k m = ((b : Int), 0)
  | 0, k => by unfold ffL; rw [if_neg (by omega)]; exact .inr rfl
  | m + 1, k => by
    unfold ffL
    split
    · rw [if_pos (by omega)]; exact .inl rfl
    · exact ffL_found m (k + 1)
theorem ffL_hit {n wn bit : Nat} (he : effN n bit = wn) : ∀ (m k f : Nat), k ≤ bit → bit < k + m → ffL n wn (f : Int) k m = (0, 11)
  | 0, k, f, h1, h2 => by omega
  | m + 1, k, f, h1, h2 => by
    unfold ffL
    split
    · rw [if_pos (by omega)]
    · rename_i hne
      have : k ≠ bit := by rintro rfl; exact hne he
      exact ffL_hit he m (k + 1) f (by omega) (by omega)
theorem ffL_one {n wn bit : Nat} (he : effN n bit = wn) : ∀ (m k : Nat), k ≤ bit → bit < k + m → ffL n wn (-1) k m = (0, 11) ∨ ffL n wn (-1) k m = ((bit : Int), 0)
  | 0, k, h1, h2 => by omega
  | m + 1, k, h1, h2 => by
    unfold ffL
    split
    · rw [if_neg (by omega)]
      by_cases e : k = bit
      · subst e; exact ffL_found m (k + 1)
      · exact .inl (ffL_hit he m (k + 1) k (by omega) (by omega))
    · rename_i hne
      have : k ≠ bit := by rintro rfl; exact hne he
      exact ffL_one he m (k + 1) (by omega) (by omega)
theorem xor_back (a b : Nat) : a ^^^ b ^^^ a = b := by rw [Nat.xor_comm a b, Nat.xor_assoc, Nat.xor_self, Nat.xor_zero]
theorem flips_law {s : ByteArray} {bit : Nat} (h1 : 1 ≤ s.size) (h2 : s.size ≤ 64) (hb : bit < 8 * s.size) :
    ffV (strN (flipN (bts s) bit)) (crcN (bts s) 65535 : Nat) = .tuple #[.int .i64 0, .int .i64 11] ∨ ffV (strN (flipN (bts s) bit)) (crcN (bts s) 65535 : Nat) = .tuple #[.int .i64 bit, .int .i64 0] := by
  have hlt := flipN_lt (bit := bit) (bts_lt (s := s))
  have hbt := bts_strN hlt
  have hsz : (strN (flipN (bts s) bit)).size = s.size := by rw [strN_size, flipN_len, bts_len]
  have hcl := crcN_lt (bts s) 65535 (by omega)
  have hx : crcN (flipN (bts s) bit) 65535 ^^^ crcN (bts s) 65535 = effN s.size bit := by
    rw [flip_crc (by rw [bts_len]; exact hb) (by omega), bts_len, xor_back]
  have hR : ffR (strN (flipN (bts s) bit)) (crcN (bts s) 65535 : Nat) = ffL s.size (effN s.size bit) (-1) 0 (8 * s.size) := by
    unfold ffR
    rw [hsz, inB_t (by omega), inB_t (by omega), hbt, Int.toNat_natCast, hx]
    simp only [Bool.and_self, if_true, if_neg (eff_ne hb)]
  unfold ffV
  rw [hR]
  rcases ffL_one (n := s.size) (bit := bit) rfl (8 * s.size) 0 (by omega) (by omega) with h | h
  · left; rw [h]
  · right; rw [h]
theorem flips_law0 {s : ByteArray} (h1 : 1 ≤ s.size) (h2 : s.size ≤ 64) : ffV s (crcN (bts s) 65535 : Nat) = .tuple #[.int .i64 (-1), .int .i64 0] := by
  have hcl := crcN_lt (bts s) 65535 (by omega)
  unfold ffV ffR
  rw [inB_t (by omega), inB_t (by omega), Int.toNat_natCast, Nat.xor_self]
  rfl
theorem flips_eff {s : ByteArray} {bit : Nat} (h1 : 1 ≤ s.size) (h2 : s.size ≤ 64) (hb : bit < 8 * s.size) : effR (s.size : Int) (bit : Int) = ((crcN (bts s) 65535 ^^^ crcN (flipN (bts s) bit) 65535 : Nat) : Int) := by
  rw [effR_yes (inB_t (by omega)) (inB_t (by omega)), flip_crc (by rw [bts_len]; exact hb) (by omega), bts_len, ← Nat.xor_assoc, Nat.xor_self, Nat.zero_xor]
/-- the first bit of a burst of one or two is among the bursts -/
theorem bursts_law {s : ByteArray} {bit : Nat} {bl : List Nat} (h1 : 1 ≤ s.size) (h2 : s.size ≤ 64) (hb : bit < 8 * s.size) (hbl : bl = flipN (bts s) bit ∨ (bit + 1 < 8 * s.size ∧ bl = flipN (flipN (bts s) bit) (bit + 1))) :
    (burE (strN bl) (crcN (bts s) 65535 : Nat) 4).2 = 0 ∧ ∃ L : List Nat, (burE (strN bl) (crcN (bts s) 65535 : Nat) 4).1 = intsN L ∧ bit ∈ L := by
  have hlt : ∀ x ∈ bl, x < 256 := by
    rcases hbl with rfl | ⟨_, rfl⟩
    · exact flipN_lt bts_lt
    · exact flipN_lt (flipN_lt bts_lt)
  have hbt := bts_strN hlt
  have hlen : bl.length = s.size := by
    rcases hbl with rfl | ⟨_, rfl⟩ <;> simp [flipN_len, bts_len]
  have hsz : (strN bl).size = s.size := by rw [strN_size, hlen]
  have hcl := crcN_lt (bts s) 65535 (by omega)
  have hE : burE (strN bl) (crcN (bts s) 65535 : Nat) 4 = (intsN (bur bl (crcN (bts s) 65535) 4 (8 * s.size)), 0) := by
    unfold burE
    rw [hsz, inB_t (by omega), inB_t (by omega), inB_t (by omega), hbt, Int.toNat_natCast]
    rfl
  rw [hE]
  refine ⟨rfl, _, rfl, ?_⟩
  refine List.mem_filter.2 ⟨List.mem_range.2 hb, ?_⟩
  unfold burB
  rw [isSumR_iff, hlen]
  have hf1 := flip_crc (l := bts s) (b := bit) (v := 65535) (by rw [bts_len]; exact hb) (by omega)
  rw [bts_len] at hf1
  rcases hbl with rfl | ⟨hb1, rfl⟩
  · rw [hf1, xor_back, Nat.xor_self]; exact Spn.zero _
  · have hf2 := flip_crc (l := flipN (bts s) bit) (b := bit + 1) (v := 65535) (by rw [flipN_len, bts_len]; exact hb1) (by omega)
    rw [flipN_len, bts_len, hf1] at hf2
    rw [hf2]
    have e : crcN (bts s) 65535 ^^^ effN s.size bit ^^^ effN s.size (bit + 1) ^^^ crcN (bts s) 65535 ^^^ effN s.size bit = effN s.size (bit + 1) := by
      generalize crcN (bts s) 65535 = A
      generalize effN s.size bit = B
      generalize effN s.size (bit + 1) = C
      rw [xright (A ^^^ B) C A, xor_back A B, xright B C B, Nat.xor_self, Nat.zero_xor]
    rw [e]
    refine Spn.self (List.mem_map.2 ⟨bit + 1, ?_, rfl⟩)
    unfold winU
    rw [List.mem_range']
    exact ⟨0, by omega, by omega⟩
end Go.Proofs.Ytklalbbacbaoiaa
