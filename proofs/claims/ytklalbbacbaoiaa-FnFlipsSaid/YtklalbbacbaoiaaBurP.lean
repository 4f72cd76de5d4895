/- BurstsOf: the plain law. -/
import Derived.Test.YtklalbbacbaoiaaFillB
namespace Go.Proofs.Ytklalbbacbaoiaa
set_option linter.unusedVariables false
/-- the bits behind bit that a burst of length L can bear -/
def winU (n bit L : Nat) : List Nat := List.range' (bit + 1) (min (bit + L) n - (bit + 1))
def burB (l : List Nat) (c L bit : Nat) : Bool := isSumR (crcN l 65535 ^^^ c ^^^ effN l.length bit) ((winU (8 * l.length) bit L).map (effN l.length))
def bur (l : List Nat) (c L k : Nat) : List Nat := (List.range k).filter (burB l c L)
theorem bur_yes {l : List Nat} {c L k : Nat} (h : burB l c L k = true) : bur l c L (k + 1) = bur l c L k ++ [k] := by
  unfold bur; rw [List.range_succ, List.filter_append, List.filter_cons, if_pos h]; rfl
theorem bur_no {l : List Nat} {c L k : Nat} (h : burB l c L k = false) : bur l c L (k + 1) = bur l c L k := by
  unfold bur; rw [List.range_succ, List.filter_append, List.filter_cons, if_neg (by rw [h]; decide)]; simp
theorem bur_len (l : List Nat) (c L k : Nat) : (bur l c L k).length ≤ k := by
  have := List.length_filter_le (burB l c L) (List.range k); simpa [bur] using this
theorem winU_len (n bit L : Nat) : (winU n bit L).length = min (bit + L) n - (bit + 1) := by simp [winU]
theorem winU_mem {n bit L k : Nat} (h : k ∈ winU n bit L) : k < n := by
  unfold winU at h; rw [List.mem_range'] at h; obtain ⟨i, h1, rfl⟩ := h; omega
theorem winU_nodup (n bit L : Nat) : (winU n bit L).Nodup := List.nodup_range' (h := by omega)
theorem flipN_back {l : List Nat} {bit : Nat} (hb : bit < 8 * l.length) : flipN (flipN l bit) bit = l := by
  unfold flipN
  have hk : bit / 8 < l.length := by omega
  rw [List.getD_eq_getElem?_getD, List.getD_eq_getElem?_getD, List.getElem?_set_self hk, List.set_set, List.getElem?_eq_getElem hk]
  simp only [Option.getD_some]
  rw [Nat.xor_assoc, Nat.xor_self, Nat.xor_zero, List.set_getElem_self]
theorem burB_red {l : List Nat} {c L bit : Nat} (hl : ∀ y ∈ l, y < 256) (hb : bit < 8 * l.length) (hL : L ≤ 16) (hc : c < 65536) :
    (redS (rowsR l.length (winU (8 * l.length) bit L) (crcN (clrN (flipN l bit) (winU (8 * l.length) bit L)) 65535 ^^^ c))).isSome = burB l c L bit := by
  rw [Bool.eq_iff_iff]
  have h := solv_spn (l := flipN l bit) (unk := winU (8 * l.length) bit L) (crc := c) (flipN_lt hl) (winU_nodup _ _ _) (by rw [flipN_len]; exact fun b => winU_mem) (by rw [winU_len]; omega) hc rfl
  rw [flipN_len] at h
  rw [h, burB, isSumR_iff, flip_crc hb (by omega), xright]
end Go.Proofs.Ytklalbbacbaoiaa
