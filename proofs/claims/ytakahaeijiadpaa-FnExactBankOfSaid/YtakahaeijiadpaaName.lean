/- IsName, impl and spec: the walks. -/
import Derived.Test.YtakahaeijiadpaaBase
namespace Go.Proofs.Ytakahaeijiadpaa
open Go.RowKit

def nameCh (c : UInt8) : Bool := (65 ≤ c.toNat && c.toNat ≤ 90) || (48 ≤ c.toNat && c.toNat ≤ 57) || c.toNat == 95
def isName (l : List UInt8) : Bool := decide (1 ≤ l.length) && decide (l.length ≤ 8) && (decide (65 ≤ (l.headD 0).toNat) && decide ((l.headD 0).toNat ≤ 90)) && l.all nameCh

theorem all_take_succ (p : UInt8 → Bool) (s : ByteArray) (k : Nat) (h : k < s.size) : (s.data.toList.take (k + 1)).all p = ((s.data.toList.take k).all p && p s[k]) := by
  have : s.data.toList.take (k + 1) = s.data.toList.take k ++ [s[k]] := by
    rw [List.take_succ_eq_append_getElem (by simpa using h)]; rfl
  rw [this]; simp
theorem all_false (p : UInt8 → Bool) (s : ByteArray) (k : Nat) (h : k < s.size) (hp : p s[k] = false) : s.data.toList.all p = false := by
  rw [← Bool.not_eq_true, List.all_eq_true]
  intro hh
  have := hh s[k] (by rw [show s[k] = s.data.toList[k]'(by simpa using h) from rfl]; exact List.getElem_mem _)
  rw [hp] at this; cases this

theorem head_at (s : ByteArray) (h : 0 < s.size) : s.data.toList.headD 0 = s[0] := by
  have h' : 0 < s.data.toList.length := by simpa using h
  rw [List.headD_eq_head?_getD, List.head?_eq_getElem?, List.getElem?_eq_getElem h']; rfl
theorem isName_short (s : ByteArray) (h : s.size < 1) : isName s.data.toList = false := by simp [isName]; omega
theorem isName_long (s : ByteArray) (h : 8 < s.size) : isName s.data.toList = false := by simp [isName]; omega
theorem isName_head (s : ByteArray) (h : 0 < s.size) (h2 : (s[0].toNat : Int) < 65 ∨ 90 < (s[0].toNat : Int)) : isName s.data.toList = false := by
  unfold isName; rw [head_at s h]
  rcases h2 with h2 | h2
  · rw [show decide (65 ≤ s[0].toNat) = false by simp; omega]; simp
  · rw [show decide (s[0].toNat ≤ 90) = false by simp; omega]; simp
theorem isName_char (s : ByteArray) (k : Nat) (h : k < s.size) (hp : nameCh s[k] = false) : isName s.data.toList = false := by
  unfold isName; rw [all_false nameCh s k h hp]; simp
theorem isName_yes (s : ByteArray) (k : Nat) (h0 : 0 < s.size) (h1 : s.size ≤ 8) (h2 : 65 ≤ (s[0].toNat : Int)) (h3 : (s[0].toNat : Int) ≤ 90) (hk : ¬ k < s.size) (H : Hid ((s.data.toList.take k).all nameCh = true)) : isName s.data.toList = true := by
  have e := H.out
  rw [List.take_of_length_le (by rw [data_len]; omega)] at e
  unfold isName; rw [head_at s h0, e, data_len]; simp; omega
theorem name_next (s : ByteArray) (k : Nat) (h : k < s.size) (H : Hid ((s.data.toList.take k).all nameCh = true)) (hp : nameCh s[k] = true) : Hid ((s.data.toList.take (k + 1)).all nameCh = true) :=
  Lib.hid (by rw [all_take_succ _ _ _ h, H.out, hp]; rfl)

set_option maxHeartbeats 1000000 in
theorem isName_i (s : ByteArray) (w : World) :
    Calls Try.prog 15 #[.string s] w fun e w' => e = .returned (.bool (isName s.data.toList)) ∧ w = w' := by
  by_cases h1 : s.size < 1
  · have H := Lib.hid (isName_short s h1)
    go_enter Try.func15, Try.ntmps15
    go_wp2
    go_ret
    exact ⟨ret_bool H.out.symm, rfl⟩
  · have h1' : 0 < s.size := by omega
    by_cases h2 : 8 < s.size
    · have H := Lib.hid (isName_long s h2)
      go_enter Try.func15, Try.ntmps15
      go_wp2
      go_ret
      exact ⟨ret_bool H.out.symm, rfl⟩
    · have h2' : s.size ≤ 8 := by omega
      clear h1 h2
      by_cases h3 : (s[0].toNat : Int) < 65
      · have H := Lib.hid (isName_head s h1' (.inl h3))
        go_enter Try.func15, Try.ntmps15
        go_wp2
        go_ret
        exact ⟨ret_bool H.out.symm, rfl⟩
      · by_cases h4 : 90 < (s[0].toNat : Int)
        · have H := Lib.hid (isName_head s h1' (.inr h4))
          go_enter Try.func15, Try.ntmps15
          go_wp2
          go_ret
          exact ⟨ret_bool H.out.symm, rfl⟩
        · go_enter Try.func15, Try.ntmps15
          go_wp2
          go_loop [25] (fun n => ∃ k : Nat, k ≤ s.size ∧ n = .int .i64 k ∧ Hid ((s.data.toList.take k).all nameCh = true)) (fun n => s.size - (intOf n).toNat)
          case atStart => exact ⟨0, by omega, rfl, Lib.hid (by simp)⟩
          case round =>
            obtain ⟨k, hk, rfl, HK⟩ := hrel
            by_cases hlt : k < s.size
            · go_wp2
              all_goals first
                | (go_ret; exact ⟨ret_bool (isName_char s k hlt (by go_tidy; (try simp only [bne_iff_ne, ne_eq, bne_eq_false_iff_eq, Bool.not_eq_true', decide_eq_false_iff_not, Bool.not_eq_false', decide_eq_true_eq] at *); simp [nameCh]; omega)).symm, rfl⟩)
                | (go_round; (case rel => exact ⟨k + 1, by omega, by go_num, name_next s k hlt HK (by go_tidy; (try simp only [bne_iff_ne, ne_eq, bne_eq_false_iff_eq, Bool.not_eq_true', decide_eq_false_iff_not, Bool.not_eq_false', decide_eq_true_eq] at *); simp [nameCh]; omega)⟩); (case measure => simp [intOf]; omega))
            · go_wp2
              go_ret
              exact ⟨ret_bool (isName_yes s k h1' h2' h3 h4 hlt HK).symm, rfl⟩

set_option maxHeartbeats 1000000 in
theorem isName_s (s : ByteArray) (w : World) :
    Calls Try.prog 22 #[.string s] w fun e w' => e = .returned (.bool (isName s.data.toList)) ∧ w = w' := by
  by_cases h1 : s.size < 1
  · have H := Lib.hid (isName_short s h1)
    have he : s.toList = [] := by rw [ByteArray.toList_eq]; exact List.eq_nil_of_length_eq_zero (by rw [data_len]; omega)
    go_enter Try.func22, Try.ntmps22
    go_wp2
    go_ret
    exact ⟨ret_bool H.out.symm, rfl⟩
  · have h1' : 0 < s.size := by omega
    have he : (s.toList.isEmpty) = false := by rw [ByteArray.toList_eq, List.isEmpty_eq_false_iff]; intro e; have := data_len s; rw [e] at this; simp at this; omega
    by_cases h2 : 8 < s.size
    · have H := Lib.hid (isName_long s h2)
      go_enter Try.func22, Try.ntmps22
      go_wp2
      go_ret
      exact ⟨ret_bool H.out.symm, rfl⟩
    · have h2' : s.size ≤ 8 := by omega
      clear h1 h2
      have b1 : decide ((8 : Int) < (s.size : Int)) = false := by simp; omega
      by_cases h3 : (s[0].toNat : Int) < 65
      · have b2 : decide ((65 : Int) ≤ (s[0].toNat : Int)) = false := by simp; omega
        have H := Lib.hid (isName_head s h1' (.inl h3))
        go_enter Try.func22, Try.ntmps22
        go_wp2
        go_ret
        exact ⟨ret_bool H.out.symm, rfl⟩
      · by_cases h4 : 90 < (s[0].toNat : Int)
        · have b2 : decide ((65 : Int) ≤ (s[0].toNat : Int)) = true := by simp; omega
          have b3 : decide ((s[0].toNat : Int) ≤ 90) = false := by simp; omega
          have H := Lib.hid (isName_head s h1' (.inr h4))
          go_enter Try.func22, Try.ntmps22
          go_wp2
          go_ret
          exact ⟨ret_bool H.out.symm, rfl⟩
        · have b2 : decide ((65 : Int) ≤ (s[0].toNat : Int)) = true := by simp; omega
          have b3 : decide ((s[0].toNat : Int) ≤ 90) = true := by simp; omega
          go_enter Try.func22, Try.ntmps22
          go_wp2
          go_loop [3] (fun n => ∃ k : Nat, k ≤ s.size ∧ n = .int .i64 k ∧ Hid ((s.data.toList.take k).all nameCh = true)) (fun n => s.size - (intOf n).toNat)
          case atStart => exact ⟨0, by omega, rfl, Lib.hid (by simp)⟩
          case round =>
            obtain ⟨k, hk, rfl, HK⟩ := hrel
            by_cases hlt : k < s.size
            · go_wp2
              all_goals first
                | (go_ret; exact ⟨ret_bool (isName_char s k hlt (by go_tidy; (try simp only [bne_iff_ne, ne_eq, bne_eq_false_iff_eq, Bool.not_eq_true', decide_eq_false_iff_not, Bool.not_eq_false', decide_eq_true_eq] at *); simp [nameCh]; omega)).symm, rfl⟩)
                | (go_round; (case rel => exact ⟨k + 1, by omega, by go_num, name_next s k hlt HK (by go_tidy; (try simp only [bne_iff_ne, ne_eq, bne_eq_false_iff_eq, Bool.not_eq_true', decide_eq_false_iff_not, Bool.not_eq_false', decide_eq_true_eq] at *); simp [nameCh]; omega)⟩); (case measure => simp [intOf]; omega))
            · go_wp2
              go_ret
              exact ⟨ret_bool (isName_yes s k h1' h2' h3 h4 hlt HK).symm, rfl⟩
end Go.Proofs.Ytakahaeijiadpaa
