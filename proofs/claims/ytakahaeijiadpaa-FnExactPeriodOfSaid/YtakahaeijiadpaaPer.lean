/- PeriodOf, impl and spec: the walk; both compute the least period. -/
import Derived.Test.YtakahaeijiadpaaBase
namespace Go.Proofs.Ytakahaeijiadpaa
open Go.RowKit

def perOk (l : List UInt8) (n : Nat) : Bool := l.length % n == 0 && l.drop n == l.take (l.length - n)
def period (l : List UInt8) : Nat := ((List.range' 1 l.length).find? (perOk l)).getD 0

theorem find_first (p : Nat → Bool) (n : Nat) : ∀ (k a : Nat), a ≤ k → k < a + n → (∀ j, a ≤ j → j < k → p j = false) → p k = true → ((List.range' a n).find? p).getD 0 = k := by
  induction n with
  | zero => intro k a h1 h2; omega
  | succ n ih =>
    intro k a h1 h2 h3 h4
    rw [List.range'_succ, List.find?_cons]
    by_cases e : a = k
    · subst e; rw [h4]; rfl
    · rw [h3 a (Nat.le_refl _) (by omega)]
      exact ih k (a + 1) (by omega) (by omega) (fun j h h' => h3 j (by omega) h') h4
theorem find_none (p : Nat → Bool) (n : Nat) : ∀ (a : Nat), (∀ j, a ≤ j → j < a + n → p j = false) → ((List.range' a n).find? p).getD 0 = 0 := by
  induction n with
  | zero => intro a _; rfl
  | succ n ih =>
    intro a h
    rw [List.range'_succ, List.find?_cons, h a (Nat.le_refl _) (by omega)]
    exact ih (a + 1) (fun j h1 h2 => h j (by omega) (by omega))

theorem perOk_yes (s : ByteArray) (k : Nat) (h1 : 1 ≤ k) (h2 : k ≤ s.size) (hd : ((s.size : Int) % (k : Int) == 0) = true) (he : ((s.extract k s.size).toList == (s.extract 0 (s.size - k)).toList) = true) : perOk s.data.toList k = true := by
  have e : s.data.toList.length = s.size := data_len s
  have hd' : s.size % k = 0 := by simp at hd; omega
  rw [ext_list, ext_list] at he
  simp only [perOk, e, hd']
  rw [List.take_of_length_le (by simp)] at he
  simpa using he
theorem perOk_ne (s : ByteArray) (k : Nat) (h1 : 1 ≤ k) (h2 : k ≤ s.size) (he : ((s.extract k s.size).toList == (s.extract 0 (s.size - k)).toList) = false) : perOk s.data.toList k = false := by
  have e := data_len s
  rw [ext_list, ext_list] at he
  simp only [perOk, e]
  rw [List.take_of_length_le (by simp)] at he
  simp at he
  simp [he]
theorem perOk_no (s : ByteArray) (k : Nat) (hd : ((s.size : Int) % (k : Int) == 0) = false) : perOk s.data.toList k = false := by
  have e : s.data.toList.length = s.size := data_len s
  have hd' : ¬ s.size % k = 0 := by simp at hd; omega
  simp [perOk, e, hd']
theorem period_is (s : ByteArray) (k : Nat) (h1 : 1 ≤ k) (h2 : k ≤ s.size) (h : Hid (∀ j, 1 ≤ j → j < k → perOk s.data.toList j = false)) (hk : perOk s.data.toList k = true) : period s.data.toList = k := by
  have e := data_len s
  exact find_first _ _ k 1 h1 (by omega) h.out hk
theorem period_no (s : ByteArray) (k : Nat) (h2 : ¬ k ≤ s.size) (h : Hid (∀ j, 1 ≤ j → j < k → perOk s.data.toList j = false)) : period s.data.toList = 0 := by
  have e := data_len s
  exact find_none _ _ 1 (fun j a b => h.out j a (by omega))
theorem per_next {l : List UInt8} {k : Nat} (h : Hid (∀ j, 1 ≤ j → j < k → perOk l j = false)) (hk : perOk l k = false) : Hid (∀ j, 1 ≤ j → j < k + 1 → perOk l j = false) := by
  refine Lib.hid fun j a b => ?_
  by_cases e : j = k
  · subst e; exact hk
  · exact h.out j a (by omega)

set_option maxHeartbeats 400000 in
theorem period_i (s : ByteArray) (w : World) (hs : s.size ≤ 1048576) :
    Calls Try.prog 7 #[.string s] w fun e w' => e = .returned (.int .i64 (period s.data.toList)) ∧ Qt w w' := by
  go_enter Try.func7, Try.ntmps7
  go_wp2
  go_loopw [3] (fun n wr => ∃ k : Nat, 1 ≤ k ∧ k ≤ s.size + 1 ∧ n = .int .i64 k ∧ Qt w wr ∧ Hid (∀ j, 1 ≤ j → j < k → perOk s.data.toList j = false)) (fun n _ => s.size + 1 - (intOf n).toNat)
  case atStart => exact ⟨1, by omega, by omega, rfl, Qt.refl _, Lib.hid (by omega)⟩
  case round =>
    obtain ⟨k, hk1, hk2, rfl, hq, HK⟩ := hrel
    have hk0 : ((k : Int) == 0) = false := by simp; omega
    by_cases hlt : k ≤ s.size
    · by_cases hd : ((s.size : Int) % (k : Int) == 0) = true
      · go_wp2
        go_quiet (fail)
        go_wp2
        · have he : ((s.extract k s.size).toList == (s.extract 0 (s.size - k)).toList) = true := by assumption
          go_ret
          exact ⟨ret_int (by rw [period_is s k hk1 hlt HK (perOk_yes s k hk1 hlt hd he)]), hq.drewN _⟩
        · have he : ((s.extract k s.size).toList == (s.extract 0 (s.size - k)).toList) = false := by assumption
          go_roundw
          case rel => exact ⟨k + 1, by omega, by omega, by go_num, hq.drewN _, per_next HK (perOk_ne s k hk1 hlt he)⟩
          case measure => simp [intOf]; omega
      · have hd' : ((s.size : Int) % (k : Int) == 0) = false := by simpa using hd
        clear hd
        go_wp2
        go_quiet (fail)
        go_wp2
        go_roundw
        case rel => exact ⟨k + 1, by omega, by omega, by go_num, hq.drewN _, per_next HK (perOk_no s k hd')⟩
        case measure => simp [intOf]; omega
    · go_wp2
      go_ret
      exact ⟨ret_int (by rw [period_no s k hlt HK]; rfl), hq⟩
set_option maxHeartbeats 400000 in
theorem period_s (s : ByteArray) (w : World) (hs : s.size ≤ 1048576) :
    Calls Try.prog 6 #[.string s] w fun e w' => e = .returned (.int .i64 (period s.data.toList)) ∧ Qt w w' := by
  go_enter Try.func6, Try.ntmps6
  go_wp2
  go_loopw [3] (fun n wr => ∃ k : Nat, 1 ≤ k ∧ k ≤ s.size + 1 ∧ n = .int .i64 k ∧ Qt w wr ∧ Hid (∀ j, 1 ≤ j → j < k → perOk s.data.toList j = false)) (fun n _ => s.size + 1 - (intOf n).toNat)
  case atStart => exact ⟨1, by omega, by omega, rfl, Qt.refl _, Lib.hid (by omega)⟩
  case round =>
    obtain ⟨k, hk1, hk2, rfl, hq, HK⟩ := hrel
    have hk0 : ((k : Int) == 0) = false := by simp; omega
    by_cases hlt : k ≤ s.size
    · by_cases hd : ((s.size : Int) % (k : Int) == 0) = true
      · go_wp2
        go_quiet (fail)
        go_wp2
        · have he : ((s.extract k s.size).toList == (s.extract 0 (s.size - k)).toList) = true := by assumption
          go_ret
          exact ⟨ret_int (by rw [period_is s k hk1 hlt HK (perOk_yes s k hk1 hlt hd he)]), hq.drewN _⟩
        · have he : ((s.extract k s.size).toList == (s.extract 0 (s.size - k)).toList) = false := by assumption
          go_roundw
          case rel => exact ⟨k + 1, by omega, by omega, by go_num, hq.drewN _, per_next HK (perOk_ne s k hk1 hlt he)⟩
          case measure => simp [intOf]; omega
      · have hd' : ((s.size : Int) % (k : Int) == 0) = false := by simpa using hd
        clear hd
        go_wp2
        go_quiet (fail)
        go_wp2
        go_roundw
        case rel => exact ⟨k + 1, by omega, by omega, by go_num, hq.drewN _, per_next HK (perOk_no s k hd')⟩
        case measure => simp [intOf]; omega
    · go_wp2
      go_ret
      exact ⟨ret_int (by rw [period_no s k hlt HK]; rfl), hq⟩
end Go.Proofs.Ytakahaeijiadpaa
