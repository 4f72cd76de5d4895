/- ValidVerb, impl and spec: the walks. -/
import Derived.Test.YtkpjjohanbiagaaDoorWord
import Derived.Test.YtkpjjohanbiagaaDoorCrc
namespace Go.Proofs.YtkpjjohanbiagaaDoor
set_option linter.unusedVariables false
set_option linter.unusedSimpArgs false
open Go.RowKit

def verbCh (c : UInt8) : Bool := (decide (97 ≤ c.toNat) && decide (c.toNat ≤ 122)) || c.toNat == 45
def verbOk (l : List UInt8) : Bool := l.all verbCh && decide (1 ≤ l.length) && decide (l.length ≤ 12)
theorem all_take_succ (p : UInt8 → Bool) (s : ByteArray) (k : Nat) (h : k < s.size) : (s.data.toList.take (k + 1)).all p = ((s.data.toList.take k).all p && p s[k]) := by
  rw [take_snoc s k h]; simp
theorem all_false (p : UInt8 → Bool) (s : ByteArray) (k : Nat) (h : k < s.size) (hp : p s[k] = false) : s.data.toList.all p = false := by
  rw [← Bool.not_eq_true, List.all_eq_true]
  intro hh
  have := hh s[k] (by rw [show s[k] = s.data.toList[k]'(by simpa using h) from rfl]; exact List.getElem_mem _)
  rw [hp] at this; cases this
theorem verb_char (s : ByteArray) (k : Nat) (h : k < s.size) (hp : verbCh s[k] = false) : verbOk s.data.toList = false := by
  unfold verbOk; rw [all_false verbCh s k h hp]; rfl
theorem verb_next (s : ByteArray) (k : Nat) (h : k < s.size) (H : Hid ((s.data.toList.take k).all verbCh = true)) (hp : verbCh s[k] = true) : Hid ((s.data.toList.take (k + 1)).all verbCh = true) :=
  Lib.hid (by rw [all_take_succ _ _ _ h, H.out, hp]; rfl)
theorem verb_end (s : ByteArray) (k : Nat) (hk : ¬ k < s.size) (H : Hid ((s.data.toList.take k).all verbCh = true)) : verbOk s.data.toList = (decide (1 ≤ s.size) && decide (s.size ≤ 12)) := by
  have e := H.out
  rw [List.take_of_length_le (by rw [data_len]; omega)] at e
  unfold verbOk; rw [e, data_len]; simp

set_option maxHeartbeats 1000000 in
theorem verb_i (s : ByteArray) (w : World) (hs : s.size ≤ 1048576) :
    Calls Tryd.prog 46 #[.string s] w fun e w' => e = .returned (.bool (verbOk s.data.toList)) ∧ w = w' := by
  go_enter Tryd.func46, Tryd.ntmps46
  go_wp2
  go_loop [6] (fun n => ∃ k : Nat, k ≤ s.size ∧ n = .int .i64 k ∧ Hid ((s.data.toList.take k).all verbCh = true)) (fun n => s.size - (intOf n).toNat)
  case atStart => exact ⟨0, by omega, rfl, Lib.hid (by simp)⟩
  case round =>
    obtain ⟨k, hk, rfl, HK⟩ := hrel
    by_cases hlt : k < s.size
    · go_wp2
      all_goals first
        | (go_ret; exact ⟨ret_bool (verb_char s k hlt (by go_tidy; (try simp only [bne_iff_ne, ne_eq, bne_eq_false_iff_eq, beq_iff_eq, beq_eq_false_iff_ne, Bool.not_eq_true', decide_eq_false_iff_not, Bool.not_eq_false', decide_eq_true_eq, Bool.not_eq_true] at *); simp [verbCh]; omega)).symm, rfl⟩)
        | (go_round; (case rel => exact ⟨k + 1, by omega, by go_num, verb_next s k hlt HK (by go_tidy; (try simp only [bne_iff_ne, ne_eq, bne_eq_false_iff_eq, beq_iff_eq, beq_eq_false_iff_ne, Bool.not_eq_true', decide_eq_false_iff_not, Bool.not_eq_false', decide_eq_true_eq, Bool.not_eq_true] at *); simp [verbCh]; omega)⟩); (case measure => simp [intOf]; omega))
    · by_cases h0 : s.size = 0
      · have he : s.toList = [] := by rw [ByteArray.toList_eq]; exact List.eq_nil_of_length_eq_zero (by rw [data_len]; omega)
        clear h0
        go_wp2
        go_ret
        refine ⟨ret_bool ?_, rfl⟩
        rw [verb_end s k hlt HK]
        have h0 : s.size = 0 := by rw [← data_len, ← ByteArray.toList_eq, he]; rfl
        simp [h0]
      · have he : (s.toList.isEmpty) = false := by rw [ByteArray.toList_eq, List.isEmpty_eq_false_iff]; intro e; have := data_len s; rw [e] at this; simp at this; omega
        go_wp2
        all_goals go_ret; refine ⟨ret_bool ?_, rfl⟩; rw [verb_end s k hlt HK]; go_tidy; first | (simp [*]; done) | (simp [*]; omega) | (rw [Bool.eq_iff_iff]; simp [*]; omega)

set_option maxHeartbeats 1000000 in
theorem verb_s0 (s : ByteArray) (w : World) (hs : s.size ≤ 1048576) :
    Calls Tryd.prog 80 #[.string s] w fun e w' => e = .returned (.bool (verbOk s.data.toList)) ∧ w = w' := by
  go_enter Tryd.func80, Tryd.ntmps80
  go_wp2
  go_loop [3] (fun n => ∃ k : Nat, k ≤ s.size ∧ n = .int .i64 k ∧ Hid ((s.data.toList.take k).all verbCh = true)) (fun n => s.size - (intOf n).toNat)
  case atStart => exact ⟨0, by omega, rfl, Lib.hid (by simp)⟩
  case round =>
    obtain ⟨k, hk, rfl, HK⟩ := hrel
    by_cases hlt : k < s.size
    · go_wp2
      all_goals first
        | (go_ret; exact ⟨ret_bool (verb_char s k hlt (by go_tidy; (try simp only [bne_iff_ne, ne_eq, bne_eq_false_iff_eq, beq_iff_eq, beq_eq_false_iff_ne, Bool.not_eq_true', decide_eq_false_iff_not, Bool.not_eq_false', decide_eq_true_eq, Bool.not_eq_true] at *); simp [verbCh]; omega)).symm, rfl⟩)
        | (go_round; (case rel => exact ⟨k + 1, by omega, by go_num, verb_next s k hlt HK (by go_tidy; (try simp only [bne_iff_ne, ne_eq, bne_eq_false_iff_eq, beq_iff_eq, beq_eq_false_iff_ne, Bool.not_eq_true', decide_eq_false_iff_not, Bool.not_eq_false', decide_eq_true_eq, Bool.not_eq_true] at *); simp [verbCh]; omega)⟩); (case measure => simp [intOf]; omega))
    · go_wp2_with (first | (go_at_call 56; refine (in_s _ _ _ _).mono ?_; rintro e w1 ⟨rfl, rfl⟩))
      go_ret; refine ⟨ret_bool ?_, rfl⟩; rw [verb_end s k hlt HK]; unfold inB; rw [Bool.eq_iff_iff]; simp; omega
end Go.Proofs.YtkpjjohanbiagaaDoor
