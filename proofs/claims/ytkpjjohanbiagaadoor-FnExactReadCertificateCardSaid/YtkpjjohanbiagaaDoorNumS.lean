/- A number in a word, and a text's words, spec: the walks. -/
import Derived.Test.YtkpjjohanbiagaaDoorSplP
import Derived.Test.YtkpjjohanbiagaaDoorHString
import Derived.Test.YtkpjjohanbiagaaDoorVerb
import Derived.Test.YtkpjjohanbiagaaDoorLedP
namespace Go.Proofs.YtkpjjohanbiagaaDoor
set_option linter.unusedVariables false
set_option linter.unusedSimpArgs false
open Go.RowKit
theorem numF_app (a b : List UInt8) : ∀ acc, numF acc (a ++ b) = (numF acc a).bind fun m => numF m b := by
  induction a with
  | nil => intro acc; rfl
  | cons x a ih =>
    intro acc
    rw [List.cons_append, numF, numF]
    split
    · exact ih _
    · rfl
def digC (c : UInt8) : Bool := decide (48 ≤ c.toNat) && decide (c.toNat ≤ 57)
theorem drop_at (s : ByteArray) (k : Nat) (h : k < s.size) : s.data.toList.drop k = s[k] :: s.data.toList.drop (k + 1) := by
  rw [List.drop_eq_getElem_cons (by rw [data_len]; exact h)]
  congr 1
theorem num_bad {s : ByteArray} {k n : Nat} (h : k < s.size) (H : Hid (numF 0 (s.data.toList.take k) = some n)) (hd : digC s[k] = false) : numF 0 s.data.toList = none := by
  have e := List.take_append_drop k s.data.toList
  rw [drop_at s k h] at e
  rw [← e, numF_app, H.out, Option.bind_some, numF, if_neg]
  unfold digC at hd
  simpa using hd
theorem num_next {s : ByteArray} {k n : Nat} (h : k < s.size) (H : Hid (numF 0 (s.data.toList.take k) = some n)) (hd : digC s[k] = true) : Hid (numF 0 (s.data.toList.take (k + 1)) = some (10 * n + (s[k].toNat - 48))) := Lib.hid (by
  rw [take_snoc s k h, numF_snoc, H.out, Option.bind_some, if_pos]
  unfold digC at hd
  simpa using hd)
theorem num_end {s : ByteArray} {k n : Nat} (h : ¬ k < s.size) (H : Hid (numF 0 (s.data.toList.take k) = some n)) : numF 0 s.data.toList = some n := by
  have e := H.out
  rwa [List.take_of_length_le (by rw [data_len]; omega)] at e
theorem dig_s (c : UInt8) (w : World) : Calls Tryd.prog 55 #[.int .u8 c.toNat] w fun e w' => e = .returned (.bool (digC c)) ∧ w = w' := by
  go_enter Tryd.func55, Tryd.ntmps55
  go_wp2
  all_goals (go_ret; refine ⟨ret_bool ?_, rfl⟩; unfold digC; go_tidy; first | (simp [*]; done) | (simp [*]; omega) | (rw [Bool.eq_iff_iff]; simp [*]; omega))
theorem num_body (s : ByteArray) (w : World) (h0 : 0 < s.size) (h7 : s.size ≤ 7) (hz : ¬ (s.data.toList.head? = some 48 ∧ 1 < s.size)) : numS s.data.toList = match numF 0 s.data.toList with | some n => (n : Int) | none => -1 := by
  unfold numS
  rw [data_len, if_neg]
  · cases numF 0 s.data.toList <;> rfl
  rintro (h | h | h)
  · rw [← data_len, h] at h0; simp at h0
  · omega
  · exact hz h
set_option maxHeartbeats 1000000 in
theorem number_s (s : ByteArray) (w : World) (hs : s.size ≤ 1048576) : Calls Tryd.prog 26 #[.string s] w fun e w' => e = .returned (.int .i64 (numS s.data.toList)) ∧ w = w' := by
  by_cases h0 : s.size = 0
  · have hv : s.data.toList = [] := List.eq_nil_of_length_eq_zero (by rw [data_len]; exact h0)
    have he : (s.toList == []) = true := by rw [ByteArray.toList_eq, hv]; rfl
    have H : Hid (numS s.data.toList = -1) := Lib.hid (by unfold numS; rw [if_pos (.inl hv)])
    go_enter Tryd.func26, Tryd.ntmps26
    go_wp2
    go_ret
    exact ⟨ret_int H.out.symm, rfl⟩
  have he : (s.toList == []) = false := by
    rw [ByteArray.toList_eq, Bool.eq_false_iff]
    intro e
    have := eq_of_beq e
    rw [← data_len, this] at h0; simp at h0
  have he2 : s.toList.isEmpty = false := by rw [ByteArray.toList_eq, List.isEmpty_eq_false_iff]; intro e; rw [← data_len, e] at h0; simp at h0
  by_cases h7 : 7 < s.size
  · have H : Hid (numS s.data.toList = -1) := Lib.hid (by unfold numS; rw [if_pos (.inr (.inl (by rw [data_len]; exact h7)))])
    go_enter Tryd.func26, Tryd.ntmps26
    go_wp2
    go_ret
    exact ⟨ret_int H.out.symm, rfl⟩
  have hp : 0 < s.size := by omega
  have hhd : s.data.toList.head? = some s[0] := by
    have := drop_at s 0 hp
    rw [List.drop_zero] at this
    rw [this]; rfl
  by_cases hz : s[0].toNat = 48 ∧ 1 < s.size
  · have H : Hid (numS s.data.toList = -1) := Lib.hid (by
      unfold numS
      rw [if_pos (.inr (.inr ⟨by rw [hhd, show s[0] = 48 from UInt8.toNat_inj.1 hz.1], by rw [data_len]; exact hz.2⟩))])
    obtain ⟨hz1, hz2⟩ := hz
    go_enter Tryd.func26, Tryd.ntmps26
    go_wp2
    all_goals first
      | (go_ret; exact ⟨ret_int H.out.symm, rfl⟩)
      | (exfalso; go_tidy; omega)
  have HB := Lib.hid (num_body s w hp (by omega) (by rw [hhd]; rintro ⟨h1, h2⟩; exact hz ⟨by rw [Option.some.inj h1]; rfl, h2⟩))
  have hlow : s.size ≤ 7 := by omega
  go_enter Tryd.func26, Tryd.ntmps26
  go_wp2
  all_goals first
    | (exfalso; go_tidy; omega)
    | skip
  all_goals
    go_loop [4, 3] (fun i n => ∃ k m : Nat, k ≤ s.size ∧ i = .int .i64 k ∧ n = .int .i64 m ∧ m < 10 ^ k ∧ Hid (numF 0 (s.data.toList.take k) = some m)) (fun i _ => s.size - (intOf i).toNat)
    case atStart => exact ⟨0, 0, by omega, rfl, rfl, by decide, Lib.hid (by simp [numF])⟩
    case round =>
      obtain ⟨k, m, hk, rfl, rfl, hm, HK⟩ := hrel
      by_cases hlt : k < s.size
      · have h10 : (10 : Nat) ^ k ≤ 10 ^ 7 := Nat.pow_le_pow_right (by decide) (by omega)
        have hmm : m < 10000000 := by omega
        have HD := Lib.hid (dig_s s[k])
        cases hd : digC s[k]
        · have HF := Lib.hid (num_bad hlt HK hd)
          rw [hd] at HD
          clear hd
          go_wp2_with (go_at_call 55; refine (HD.out _).mono ?_; rintro e w1 ⟨rfl, rfl⟩)
          go_ret
          refine ⟨ret_int ?_, rfl⟩
          rw [HB.out, HF.out]
        · have HF := Lib.hid (num_next hlt HK hd)
          have hd2 : 48 ≤ s[k].toNat ∧ s[k].toNat ≤ 57 := by unfold digC at hd; simpa using hd
          rw [hd] at HD
          clear hd
          go_wp2_with (go_at_call 55; refine (HD.out _).mono ?_; rintro e w1 ⟨rfl, rfl⟩)
          go_round
          case rel => exact ⟨k + 1, 10 * m + (s[k].toNat - 48), by omega, by go_num, by go_num, by rw [Nat.pow_succ]; omega, HF⟩
          case measure => simp [intOf]; omega
      · have HF := Lib.hid (num_end hlt HK)
        go_wp2
        go_ret
        refine ⟨ret_int ?_, rfl⟩
        rw [HB.out, HF.out]
end Go.Proofs.YtkpjjohanbiagaaDoor
