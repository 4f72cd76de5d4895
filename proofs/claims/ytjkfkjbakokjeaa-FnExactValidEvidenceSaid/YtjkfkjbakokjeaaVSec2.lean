/- Sectors that are valid, impl and spec: the walks. -/
import Derived.Test.YtjkfkjbakokjeaaVSec
namespace Go.Proofs.Ytjkfkjbakokjeaa
set_option linter.unusedVariables false
open Go.RowKit
theorem secOk_no1 {s : Sec} {n : Nat} (h : inB s.state 1 4 = false) : secOk s n = false := by unfold secOk; rw [h]; rfl
theorem secOk_no2 {s : Sec} {n : Nat} (h : ¬ s.data.size = n) : secOk s n = false := by unfold secOk; rw [decide_eq_false h, Bool.and_false, Bool.false_and]
theorem secOk_yes {s : Sec} {n : Nat} (h : inB s.state 1 4 = true) (h2 : s.data.size = n) (h3 : (s.state != 3) = true) : secOk s n = true := by unfold secOk; rw [h, decide_eq_true h2, h3]; rfl
theorem secOk_eq {s : Sec} {n : Nat} (h : inB s.state 1 4 = true) (h2 : s.data.size = n) (h3 : (s.state != 3) = false) : secOk s n = (s.data.toList == (strN (List.replicate n 0)).toList) := by unfold secOk; rw [h, decide_eq_true h2, h3]; rfl
set_option maxRecDepth 20000 in
set_option maxHeartbeats 2000000 in
theorem sec_i (s : Sec) (k : Int) (w : World) (hk : 0 ≤ k ∧ k ≤ 2) (hm : s.data.size ≤ maxLen) :
    Calls Try.prog 65 #[.agg #[.string s.data, .int .i64 s.state], .int .i64 k] w fun e w' => e = .returned (.bool (secOk s (szN k))) ∧ Below w.heap.size w w' := by
  have hz := szN_le hk
  unfold maxLen at hm
  have e0 : ∀ x : Wb (w.alloc (.cells #[.string s.data, .int .i64 s.state] 76)), x.1.cell? ⟨w.heap.size, 0, none⟩ = some (.string s.data) := fun x => Wb.cell (by simp) x
  have e1 : ∀ x : Wb (w.alloc (.cells #[.string s.data, .int .i64 s.state] 76)), x.1.cell? ⟨w.heap.size, 1, none⟩ = some (.int .i64 s.state) := fun x => Wb.cell (by simp) x
  have B0 : Below w.heap.size w (w.alloc (.cells #[.string s.data, .int .i64 s.state] 76)) := Below.alloc (Below.refl _ _) (Nat.le_refl _) _
  cases h1 : inB s.state 1 4
  · have HF := Lib.hid (secOk_no1 (n := szN k) h1)
    go_enter Try.func65, Try.ntmps65
    go_wp2_with (fail)
    refine wp_region_wb (by kernel_rfl) (by kernel_rfl) ?_; (repeat (go_big_quiet_step (first | (go_at_call 32; exact Wb.same (within_i _ _ _ _)) | (go_at_call 52; exact Wb.same (bytes_i k _ hk)) | (go_at_call 73; exact Wb.calls (zeros_i (szN k) _ (by omega)))))); refine wpQuiet_nil ?_
    rintro w1 ⟨⟨w1', hb1⟩, rfl⟩
    go_wp2
    go_ret
    exact ⟨ret_bool HF.out.symm, B0.trans (hb1.mono (by simp))⟩
  · by_cases h2 : s.data.size = szN k
    · have d1 : ((s.data.size : Int) != ((szN k : Nat) : Int)) = false := by simp [h2]
      cases h3 : (s.state != 3)
      · have HF := Lib.hid (secOk_eq h1 h2 h3)
        clear h2
        go_enter Try.func65, Try.ntmps65
        go_wp2_with (fail)
        refine wp_region_wb (by kernel_rfl) (by kernel_rfl) ?_; (repeat (go_big_quiet_step (first | (go_at_call 32; exact Wb.same (within_i _ _ _ _)) | (go_at_call 52; exact Wb.same (bytes_i k _ hk)) | (go_at_call 73; exact Wb.calls (zeros_i (szN k) _ (by omega)))))); refine wpQuiet_nil ?_
        rintro w1 ⟨⟨w1', hb1⟩, rfl⟩
        have f0 : ∀ x : Wb w1, x.1.cell? ⟨w.heap.size, 0, none⟩ = some (.string s.data) := fun x => Wb.cell (e0 ⟨w1, hb1⟩) x
        have f1 : ∀ x : Wb w1, x.1.cell? ⟨w.heap.size, 1, none⟩ = some (.int .i64 s.state) := fun x => Wb.cell (e1 ⟨w1, hb1⟩) x
        go_wp2_with (fail)
        refine wp_region_wb (by kernel_rfl) (by kernel_rfl) ?_; (repeat (go_big_quiet_step (first | (go_at_call 32; exact Wb.same (within_i _ _ _ _)) | (go_at_call 52; exact Wb.same (bytes_i k _ hk)) | (go_at_call 73; exact Wb.calls (zeros_i (szN k) _ (by omega)))))); refine wpQuiet_nil ?_
        rintro w2 ⟨⟨w2', hb2⟩, rfl⟩
        have z1 := hb1.size
        go_wp2
        go_ret
        exact ⟨ret_bool HF.out.symm, (B0.trans (hb1.mono (by simp))).trans (hb2.mono (by simp at z1; omega))⟩
      · have HF := Lib.hid (secOk_yes h1 h2 h3)
        clear h2
        go_enter Try.func65, Try.ntmps65
        go_wp2_with (fail)
        refine wp_region_wb (by kernel_rfl) (by kernel_rfl) ?_; (repeat (go_big_quiet_step (first | (go_at_call 32; exact Wb.same (within_i _ _ _ _)) | (go_at_call 52; exact Wb.same (bytes_i k _ hk)) | (go_at_call 73; exact Wb.calls (zeros_i (szN k) _ (by omega)))))); refine wpQuiet_nil ?_
        rintro w1 ⟨⟨w1', hb1⟩, rfl⟩
        have f0 : ∀ x : Wb w1, x.1.cell? ⟨w.heap.size, 0, none⟩ = some (.string s.data) := fun x => Wb.cell (e0 ⟨w1, hb1⟩) x
        have f1 : ∀ x : Wb w1, x.1.cell? ⟨w.heap.size, 1, none⟩ = some (.int .i64 s.state) := fun x => Wb.cell (e1 ⟨w1, hb1⟩) x
        go_wp2_with (fail)
        refine wp_region_wb (by kernel_rfl) (by kernel_rfl) ?_; (repeat (go_big_quiet_step (first | (go_at_call 32; exact Wb.same (within_i _ _ _ _)) | (go_at_call 52; exact Wb.same (bytes_i k _ hk)) | (go_at_call 73; exact Wb.calls (zeros_i (szN k) _ (by omega)))))); refine wpQuiet_nil ?_
        rintro w2 ⟨⟨w2', hb2⟩, rfl⟩
        have z1 := hb1.size
        go_wp2
        go_ret
        exact ⟨ret_bool HF.out.symm, (B0.trans (hb1.mono (by simp))).trans (hb2.mono (by simp at z1; omega))⟩
    · have d1 : ((s.data.size : Int) != ((szN k : Nat) : Int)) = true := by simp; omega
      have HF := Lib.hid (secOk_no2 h2)
      clear h2
      go_enter Try.func65, Try.ntmps65
      go_wp2_with (fail)
      refine wp_region_wb (by kernel_rfl) (by kernel_rfl) ?_; (repeat (go_big_quiet_step (first | (go_at_call 32; exact Wb.same (within_i _ _ _ _)) | (go_at_call 52; exact Wb.same (bytes_i k _ hk)) | (go_at_call 73; exact Wb.calls (zeros_i (szN k) _ (by omega)))))); refine wpQuiet_nil ?_
      rintro w1 ⟨⟨w1', hb1⟩, rfl⟩
      go_wp2
      go_ret
      exact ⟨ret_bool HF.out.symm, B0.trans (hb1.mono (by simp))⟩
set_option maxRecDepth 20000 in
set_option maxHeartbeats 2000000 in
theorem sec_s (s : Sec) (n : Nat) (w : World) (hn : n ≤ 64) (hm : s.data.size ≤ maxLen) :
    Calls Try.prog 60 #[.agg #[.string s.data, .int .i64 s.state], .int .i64 n] w fun e w' => e = .returned (.bool (secOk s n)) ∧ Below w.heap.size w w' := by
  unfold maxLen at hm
  have e0 : ∀ x : Wb (w.alloc (.cells #[.string s.data, .int .i64 s.state] 76)), x.1.cell? ⟨w.heap.size, 0, none⟩ = some (.string s.data) := fun x => Wb.cell (by simp) x
  have e1 : ∀ x : Wb (w.alloc (.cells #[.string s.data, .int .i64 s.state] 76)), x.1.cell? ⟨w.heap.size, 1, none⟩ = some (.int .i64 s.state) := fun x => Wb.cell (by simp) x
  have B0 : Below w.heap.size w (w.alloc (.cells #[.string s.data, .int .i64 s.state] 76)) := Below.alloc (Below.refl _ _) (Nat.le_refl _) _
  by_cases h2 : s.data.size = n
  · have d1 : ((s.data.size : Int) != (n : Int)) = false := by simp [h2]
    cases h1 : inB s.state 1 4
    · have HF := Lib.hid (secOk_no1 (n := n) h1)
      clear h2
      go_enter Try.func60, Try.ntmps60
      go_wp2_with (go_at_call 55; refine (in_s _ _ _ _).mono ?_; rintro e w1 ⟨rfl, rfl⟩)
      go_ret
      exact ⟨ret_bool HF.out.symm, B0⟩
    · cases h3 : (s.state != 3)
      · have HF := Lib.hid (secOk_eq h1 h2 h3)
        clear h2
        go_enter Try.func60, Try.ntmps60
        go_wp2_with (go_at_call 55; refine (in_s _ _ _ _).mono ?_; rintro e w1 ⟨rfl, rfl⟩)
        refine wp_region_wb (by kernel_rfl) (by kernel_rfl) ?_; (repeat (go_big_quiet_step (first | (go_at_call 55; exact Wb.same (in_s _ _ _ _)) | (go_at_call 72; exact Wb.calls (zeros_s n _ (by omega)))))); refine wpQuiet_nil ?_
        rintro w2 ⟨⟨w2', hb2⟩, rfl⟩
        go_wp2
        go_ret
        exact ⟨ret_bool HF.out.symm, B0.trans (hb2.mono (by simp))⟩
      · have HF := Lib.hid (secOk_yes h1 h2 h3)
        clear h2
        go_enter Try.func60, Try.ntmps60
        go_wp2_with (go_at_call 55; refine (in_s _ _ _ _).mono ?_; rintro e w1 ⟨rfl, rfl⟩)
        refine wp_region_wb (by kernel_rfl) (by kernel_rfl) ?_; (repeat (go_big_quiet_step (first | (go_at_call 55; exact Wb.same (in_s _ _ _ _)) | (go_at_call 72; exact Wb.calls (zeros_s n _ (by omega)))))); refine wpQuiet_nil ?_
        rintro w2 ⟨⟨w2', hb2⟩, rfl⟩
        go_wp2
        go_ret
        exact ⟨ret_bool HF.out.symm, B0.trans (hb2.mono (by simp))⟩
  · have d1 : ((s.data.size : Int) != (n : Int)) = true := by simp; omega
    have HF := Lib.hid (secOk_no2 h2)
    clear h2
    go_enter Try.func60, Try.ntmps60
    go_wp2_with (go_at_call 55; refine (in_s _ _ _ _).mono ?_; rintro e w1 ⟨rfl, rfl⟩)
    go_ret
    exact ⟨ret_bool HF.out.symm, B0⟩
end Go.Proofs.Ytjkfkjbakokjeaa
