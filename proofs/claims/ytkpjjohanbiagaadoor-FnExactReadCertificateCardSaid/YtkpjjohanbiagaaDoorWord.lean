/- within, isWord, PutWord and their kin of the reference. -/
import Derived.Test.YtkpjjohanbiagaaDoorBits
import Derived.Laws.BytesArg
namespace Go.Proofs.YtkpjjohanbiagaaDoor
set_option linter.unusedVariables false
set_option linter.unusedSimpArgs false
open Go.RowKit

def inB (x lo hi : Int) : Bool := decide (lo ≤ x) && decide (x ≤ hi)
theorem inB_yes {x lo hi : Int} (h : inB x lo hi = true) : lo ≤ x ∧ x ≤ hi := by simpa [inB] using h
theorem inB_no {x lo hi : Int} (h : inB x lo hi = false) : ¬ (lo ≤ x ∧ x ≤ hi) := by simp [inB] at h; omega
theorem inB_t {x lo hi : Int} (h : lo ≤ x ∧ x ≤ hi) : inB x lo hi = true := by simpa [inB] using h
theorem inB_f {x lo hi : Int} (h : ¬ (lo ≤ x ∧ x ≤ hi)) : inB x lo hi = false := by simp [inB]; omega

theorem within_i (x lo hi : Int) (w : World) : Calls Tryd.prog 63 #[.int .i64 x, .int .i64 lo, .int .i64 hi] w fun e w' => e = .returned (.bool (inB x lo hi)) ∧ w = w' := by
  go_enter Tryd.func63, Tryd.ntmps63
  go_wp2
  all_goals (go_ret; refine ⟨ret_bool ?_, rfl⟩; unfold inB; go_tidy; first | (simp [*]; done) | (simp [*]; omega))
theorem in_s (x lo hi : Int) (w : World) : Calls Tryd.prog 56 #[.int .i64 x, .int .i64 lo, .int .i64 hi] w fun e w' => e = .returned (.bool (inB x lo hi)) ∧ w = w' := by
  go_enter Tryd.func56, Tryd.ntmps56
  go_wp2
  all_goals (go_ret; refine ⟨ret_bool ?_, rfl⟩; unfold inB; go_tidy; first | (simp [*]; done) | (simp [*]; omega))
/-- a word of two bytes -/
def word (n : Nat) : ByteArray := strOfNums [(n : Int) / 256, (n : Int) % 256]
theorem conv2 (w : World) (x y : Int) : (convert 35 9 (.slice (some ⟨w.heap.size, 0, none⟩) 2 2)).run Tryd.prog (w.alloc (.cells #[.int .u8 x, .int .u8 y] 5)) = .ok (.string (strOfNums [x, y])) (w.alloc (.cells #[.int .u8 x, .int .u8 y] 5)) :=
  run_convert_bytes_arg _ 35 5 Tryd.underlying35 Tryd.underlying5 _ 0 2 2 [x, y] rfl (fun i hi => by
    rcases Nat.lt_succ_iff_lt_or_eq.1 hi with h | rfl
    · obtain rfl : i = 0 := by omega
      simp
    · simp) 9 Tryd.underlying9
set_option maxHeartbeats 1000000 in
theorem putWord_i (n : Nat) (w : World) (h : n < 65536) : Calls Tryd.prog 73 #[.int .i64 n] w fun e w' => e = .returned (.string (word n)) ∧ Below w.heap.size w w' := by
  have b0 : inB n 0 65535 = true := inB_t (by omega)
  have hcv := conv2
  go_enter Tryd.func73, Tryd.ntmps73
  go_wp2_with (first | (go_at_call 63; refine (within_i _ _ _ _).mono ?_; rintro e w1 ⟨rfl, rfl⟩))
  go_ret
  exact ⟨rfl, (by repeat (first | exact Below.refl _ _ | refine Below.alloc ?_ (by first | omega | (simp; done) | (simp; omega)) _ | apply Below.drew | apply below_drewN | refine Below.setCell ?_ (by first | omega | (simp; done) | (simp; omega)) _ | refine Below.trans ?_ (Below.mono (by assumption) (by first | omega | (simp; done) | (simp; omega)))))⟩
  go_wp2_with (first | (go_at_call 63; refine (within_i _ _ _ _).mono ?_; rintro e w1 ⟨rfl, rfl⟩))
set_option maxHeartbeats 1000000 in
theorem word_s (n : Nat) (w : World) (h : n < 65536) : Calls Tryd.prog 98 #[.int .i64 n] w fun e w' => e = .returned (.string (word n)) ∧ Below w.heap.size w w' := by
  have hcv := conv2
  go_enter Tryd.func98, Tryd.ntmps98
  go_wp2
  go_ret
  exact ⟨rfl, (by repeat (first | exact Below.refl _ _ | refine Below.alloc ?_ (by first | omega | (simp; done) | (simp; omega)) _ | apply Below.drew | apply below_drewN | refine Below.setCell ?_ (by first | omega | (simp; done) | (simp; omega)) _ | refine Below.trans ?_ (Below.mono (by assumption) (by first | omega | (simp; done) | (simp; omega)))))⟩
end Go.Proofs.YtkpjjohanbiagaaDoor
