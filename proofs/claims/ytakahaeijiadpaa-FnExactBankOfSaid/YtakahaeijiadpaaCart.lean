/- ValidCart and BankOf, impl and spec: the walks. -/
import Derived.Test.YtakahaeijiadpaaName
namespace Go.Proofs.Ytakahaeijiadpaa
open Go.RowKit

def cartOk (s : List UInt8) (m : Int) (n : Nat) : Bool := isName s && (decide (1 ≤ m) && decide (m ≤ 3)) && decide (n % 64 = 0) && (decide (1 ≤ n / 64) && decide (n / 64 ≤ 16)) && (decide (m ≠ 1) || decide (n / 64 ≤ 2))
abbrev cartV (s : ByteArray) (m : Int) (p : ByteArray) : Value := .agg #[.string s, .int .i64 m, .string p]

set_option maxHeartbeats 1000000 in
theorem validCart_i (s : ByteArray) (m : Int) (p : ByteArray) (w : World) (hp : p.size ≤ 1048576) :
    Calls Try.prog 11 #[cartV s m p] w fun e w' => e = .returned (.bool (cartOk s.data.toList m p.size)) ∧ Below w.heap.size w w' := by
  go_enter Try.func11, Try.ntmps11
  go_wp2_with (first | (go_at_call 15; refine (isName_i s _).mono ?_; rintro e w' ⟨rfl, rfl⟩) | go_in)
  all_goals (go_ret; refine ⟨ret_bool ?_, (by repeat (first | exact Below.refl _ _ | refine Below.alloc ?_ (by first | omega | (simp; done) | (simp; omega)) _ | apply Below.drew | apply Below.drewN | refine Below.setCell ?_ (by first | omega | (simp; done) | (simp; omega)) _ | refine Below.trans ?_ (Below.mono (by assumption) (by first | omega | (simp; done) | (simp; omega)))))⟩; go_tidy; (try simp only [bne_iff_ne, ne_eq, bne_eq_false_iff_eq, beq_iff_eq, beq_eq_false_iff_ne, Bool.not_eq_true', decide_eq_false_iff_not, Bool.not_eq_false', decide_eq_true_eq, Bool.not_eq_true] at *); (first | (simp [cartOk, *]; done) | (simp [cartOk, *]; omega) | (rw [Bool.eq_iff_iff]; simp [cartOk, *]; omega)))

set_option maxHeartbeats 1000000 in
theorem cartOk_s (s : ByteArray) (m : Int) (p : ByteArray) (b : Nat) (w : World) (hp : p.size ≤ 1048576) (h0 : w.cell? ⟨b, 0, none⟩ = some (.string s)) (h1 : w.cell? ⟨b, 1, none⟩ = some (.int .i64 m)) (h2 : w.cell? ⟨b, 2, none⟩ = some (.string p)) :
    Calls Try.prog 14 #[.pointer (some ⟨b, 0, none⟩)] w fun e w' => e = .returned (.bool (cartOk s.data.toList m p.size)) ∧ w = w' := by
  go_enter Try.func14, Try.ntmps14
  go_wp2_with (first | (go_at_call 22; refine (isName_s s _).mono ?_; rintro e w' ⟨rfl, rfl⟩) | go_in)
  all_goals (go_ret; refine ⟨ret_bool ?_, rfl⟩; go_tidy; (try simp only [bne_iff_ne, ne_eq, bne_eq_false_iff_eq, beq_iff_eq, beq_eq_false_iff_ne, Bool.not_eq_true', decide_eq_false_iff_not, Bool.not_eq_false', decide_eq_true_eq, Bool.not_eq_true] at *); (first | (simp [cartOk, *]; done) | (simp [cartOk, *]; omega) | (rw [Bool.eq_iff_iff]; simp [cartOk, *]; omega)))

set_option maxHeartbeats 1000000 in
theorem validCart_s (s : ByteArray) (m : Int) (p : ByteArray) (w : World) (hp : p.size ≤ 1048576) :
    Calls Try.prog 9 #[cartV s m p] w fun e w' => e = .returned (.bool (cartOk s.data.toList m p.size)) ∧ Below w.heap.size w w' := by
  go_enter Try.func9, Try.ntmps9
  go_wp2_with (first | (go_at_call 22; refine (isName_s s _).mono ?_; rintro e w' ⟨rfl, rfl⟩) | go_in)
  all_goals (go_ret; refine ⟨ret_bool ?_, (by repeat (first | exact Below.refl _ _ | refine Below.alloc ?_ (by first | omega | (simp; done) | (simp; omega)) _ | apply Below.drew | apply Below.drewN | refine Below.setCell ?_ (by first | omega | (simp; done) | (simp; omega)) _ | refine Below.trans ?_ (Below.mono (by assumption) (by first | omega | (simp; done) | (simp; omega)))))⟩; go_tidy; (try simp only [bne_iff_ne, ne_eq, bne_eq_false_iff_eq, beq_iff_eq, beq_eq_false_iff_ne, Bool.not_eq_true', decide_eq_false_iff_not, Bool.not_eq_false', decide_eq_true_eq, Bool.not_eq_true] at *); (first | (simp [cartOk, *]; done) | (simp [cartOk, *]; omega) | (rw [Bool.eq_iff_iff]; simp [cartOk, *]; omega)))

/-- BankOf's results -/
def bankR (s : ByteArray) (m : Int) (p : ByteArray) (k : Int) : ByteArray × Int :=
  if cartOk s.data.toList m p.size = true then (if 0 ≤ k ∧ k < (p.size / 64 : Nat) then (p.extract (k * 64).toNat ((k + 1) * 64).toNat, 0) else (.empty, 2)) else (.empty, 1)
theorem cart_div {s : List UInt8} {m : Int} {n : Nat} (h : cartOk s m n = true) : n % 64 = 0 ∧ 1 ≤ n / 64 ∧ n / 64 ≤ 16 := by
  simp [cartOk] at h; omega

set_option maxHeartbeats 1000000 in
theorem bankOf_i (s : ByteArray) (m : Int) (p : ByteArray) (k : Int) (w : World) (hp : p.size ≤ 1048576) :
    Calls Try.prog 13 #[cartV s m p, .int .i64 k] w fun e w' => e = .returned (.tuple #[.string (bankR s m p k).1, .int .i64 (bankR s m p k).2]) ∧ Below w.heap.size w w' := by
  by_cases hc : cartOk s.data.toList m p.size = true
  · obtain ⟨c1, c2, c3⟩ := cart_div hc
    by_cases hk : 0 ≤ k ∧ k < (p.size / 64 : Nat)
    · have H : Hid (bankR s m p k = (p.extract (k * 64).toNat ((k + 1) * 64).toNat, 0)) := Lib.hid (by unfold bankR; rw [if_pos hc, if_pos hk])
      obtain ⟨hk1, hk2⟩ := hk
      have b1 : decide (k ≤ (p.size : Int) / 64 - 1) = true := by simp; omega
      go_enter Try.func13, Try.ntmps13
      go_wp2_with (first | (go_at_call 11; refine (validCart_i s m p _ hp).mono ?_; rintro e w1 ⟨rfl, hb⟩; obtain ⟨hc1, hf1⟩ := bcell hb; have hz1 : w.heap.size < w1.heap.size := (by have := hb.size; (try simp at this); omega)) | go_in)
      go_ret2
      exact ⟨ret_si (by rw [H.out]) (by rw [H.out]), (by repeat (first | exact Below.refl _ _ | refine Below.alloc ?_ (by first | omega | (simp; done) | (simp; omega)) _ | apply Below.drew | apply Below.drewN | refine Below.setCell ?_ (by first | omega | (simp; done) | (simp; omega)) _ | refine Below.trans ?_ (Below.mono (by assumption) (by first | omega | (simp; done) | (simp; omega)))))⟩
    · have H : Hid (bankR s m p k = (.empty, 2)) := Lib.hid (by unfold bankR; rw [if_pos hc, if_neg hk])
      have b1 : 0 ≤ k → decide (k ≤ (p.size : Int) / 64 - 1) = false := by intro h; simp; omega
      go_enter Try.func13, Try.ntmps13
      go_wp2_with (first | (go_at_call 11; refine (validCart_i s m p _ hp).mono ?_; rintro e w1 ⟨rfl, hb⟩; obtain ⟨hc1, hf1⟩ := bcell hb; have hz1 : w.heap.size < w1.heap.size := (by have := hb.size; (try simp at this); omega)) | go_in)
      all_goals
        go_ret2
        exact ⟨ret_si (by rw [H.out]; rfl) (by rw [H.out]), (by repeat (first | exact Below.refl _ _ | refine Below.alloc ?_ (by first | omega | (simp; done) | (simp; omega)) _ | apply Below.drew | apply Below.drewN | refine Below.setCell ?_ (by first | omega | (simp; done) | (simp; omega)) _ | refine Below.trans ?_ (Below.mono (by assumption) (by first | omega | (simp; done) | (simp; omega)))))⟩
  · have H : Hid (bankR s m p k = (.empty, 1)) := Lib.hid (by unfold bankR; rw [if_neg hc])
    have hc' : cartOk s.data.toList m p.size = false := by simpa using hc
    clear hc
    go_enter Try.func13, Try.ntmps13
    go_wp2_with (first | (go_at_call 11; refine (validCart_i s m p _ hp).mono ?_; rintro e w1 ⟨rfl, hb⟩; obtain ⟨hc1, hf1⟩ := bcell hb; have hz1 : w.heap.size < w1.heap.size := (by have := hb.size; (try simp at this); omega)) | go_in)
    go_ret2
    exact ⟨ret_si (by rw [H.out]; rfl) (by rw [H.out]), (by repeat (first | exact Below.refl _ _ | refine Below.alloc ?_ (by first | omega | (simp; done) | (simp; omega)) _ | apply Below.drew | apply Below.drewN | refine Below.setCell ?_ (by first | omega | (simp; done) | (simp; omega)) _ | refine Below.trans ?_ (Below.mono (by assumption) (by first | omega | (simp; done) | (simp; omega)))))⟩

set_option maxHeartbeats 1000000 in
theorem bankOf_s (s : ByteArray) (m : Int) (p : ByteArray) (k : Int) (w : World) (hp : p.size ≤ 1048576) :
    Calls Try.prog 12 #[cartV s m p, .int .i64 k] w fun e w' => e = .returned (.tuple #[.string (bankR s m p k).1, .int .i64 (bankR s m p k).2]) ∧ Below w.heap.size w w' := by
  by_cases hc : cartOk s.data.toList m p.size = true
  · obtain ⟨c1, c2, c3⟩ := cart_div hc
    by_cases hk : 0 ≤ k ∧ k < (p.size / 64 : Nat)
    · have H : Hid (bankR s m p k = (p.extract (64 * k).toNat (64 * (k + 1)).toNat, 0)) := Lib.hid (by unfold bankR; rw [if_pos hc, if_pos hk, Int.mul_comm k, Int.mul_comm (k + 1)])
      obtain ⟨hk1, hk2⟩ := hk
      have b1 : decide (k ≤ (p.size : Int) / 64 - 1) = true := by simp; omega
      go_enter Try.func12, Try.ntmps12
      go_wp2_with (first | (go_at_call 14; refine (cartOk_s s m p _ _ hp (by simp) (by simp) (by simp)).mono ?_; rintro e w1 ⟨rfl, rfl⟩) | go_in)
      go_ret2
      exact ⟨ret_si (by rw [H.out]) (by rw [H.out]), (by repeat (first | exact Below.refl _ _ | refine Below.alloc ?_ (by first | omega | (simp; done) | (simp; omega)) _ | apply Below.drew | apply Below.drewN | refine Below.setCell ?_ (by first | omega | (simp; done) | (simp; omega)) _ | refine Below.trans ?_ (Below.mono (by assumption) (by first | omega | (simp; done) | (simp; omega)))))⟩
    · have H : Hid (bankR s m p k = (.empty, 2)) := Lib.hid (by unfold bankR; rw [if_pos hc, if_neg hk])
      have b1 : 0 ≤ k → decide (k ≤ (p.size : Int) / 64 - 1) = false := by intro h; simp; omega
      go_enter Try.func12, Try.ntmps12
      go_wp2_with (first | (go_at_call 14; refine (cartOk_s s m p _ _ hp (by simp) (by simp) (by simp)).mono ?_; rintro e w1 ⟨rfl, rfl⟩) | go_in)
      all_goals
        go_ret2
        exact ⟨ret_si (by rw [H.out]; rfl) (by rw [H.out]), (by repeat (first | exact Below.refl _ _ | refine Below.alloc ?_ (by first | omega | (simp; done) | (simp; omega)) _ | apply Below.drew | apply Below.drewN | refine Below.setCell ?_ (by first | omega | (simp; done) | (simp; omega)) _ | refine Below.trans ?_ (Below.mono (by assumption) (by first | omega | (simp; done) | (simp; omega)))))⟩
  · have H : Hid (bankR s m p k = (.empty, 1)) := Lib.hid (by unfold bankR; rw [if_neg hc])
    have hc' : cartOk s.data.toList m p.size = false := by simpa using hc
    clear hc
    go_enter Try.func12, Try.ntmps12
    go_wp2_with (first | (go_at_call 14; refine (cartOk_s s m p _ _ hp (by simp) (by simp) (by simp)).mono ?_; rintro e w1 ⟨rfl, rfl⟩) | go_in)
    go_ret2
    exact ⟨ret_si (by rw [H.out]; rfl) (by rw [H.out]), (by repeat (first | exact Below.refl _ _ | refine Below.alloc ?_ (by first | omega | (simp; done) | (simp; omega)) _ | apply Below.drew | apply Below.drewN | refine Below.setCell ?_ (by first | omega | (simp; done) | (simp; omega)) _ | refine Below.trans ?_ (Below.mono (by assumption) (by first | omega | (simp; done) | (simp; omega)))))⟩

set_option maxHeartbeats 1000000 in
theorem toCart_any (s : ByteArray) (m : Int) (p : ByteArray) (w : World) :
    Calls Try.prog 10 #[cartV s m p] w fun e w' => e = .returned (cartV s m p) ∧ Below w.heap.size w w' := by
  go_enter Try.func10, Try.ntmps10
  go_wp2
  exact bodyPost_ret (v := cartV s m p) (by simp [results, Try.results10, go_sem]) rfl ⟨rfl, (by repeat (first | exact Below.refl _ _ | refine Below.alloc ?_ (by first | omega | (simp; done) | (simp; omega)) _ | apply Below.drew | apply Below.drewN | refine Below.setCell ?_ (by first | omega | (simp; done) | (simp; omega)) _ | refine Below.trans ?_ (Below.mono (by assumption) (by first | omega | (simp; done) | (simp; omega)))))⟩
set_option maxHeartbeats 1000000 in
theorem szCart_any (s : ByteArray) (m : Int) (p : ByteArray) (w : World) (h1 : s.size ≤ maxLen) (h2 : p.size ≤ maxLen) :
    Calls Try.prog 8 #[cartV s m p, .int .i64 1048576] w fun e w' => e = .returned (.int .i64 (szR 1048576 (s.size + p.size))) ∧ Below w.heap.size w w' := by
  unfold maxLen at h1 h2
  go_enter Try.func8, Try.ntmps8
  go_wp2
  all_goals (go_ret; refine ⟨ret_int ?_, (by repeat (first | exact Below.refl _ _ | refine Below.alloc ?_ (by first | omega | (simp; done) | (simp; omega)) _ | apply Below.drew | apply Below.drewN | refine Below.setCell ?_ (by first | omega | (simp; done) | (simp; omega)) _ | refine Below.trans ?_ (Below.mono (by assumption) (by first | omega | (simp; done) | (simp; omega)))))⟩; first | (rw [szR_yes (by omega)]; done) | (rw [szR_yes (by omega)]; omega) | (rw [szR_no (by omega)]))
end Go.Proofs.Ytakahaeijiadpaa
