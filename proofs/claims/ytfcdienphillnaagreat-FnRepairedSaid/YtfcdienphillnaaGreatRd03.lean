/- zeros: its contract. Geometries and sectors that are valid, impl and spec: the walks. Sectors that are valid, impl and spec: the walks. Discs that are valid, impl and spec: the walks. Discs that are valid, the reference: the walks. Sectors that no source covers: the plain law. The laws' own helpers over one disc, marks and rows of its box. The helpers of the laws over slices of int64: sizes, copies, comparison, marks. Printed by gen_flat.py. The laws' own helpers over evidence: sizes, copies, comparison. Printed by gen_evd.py. -/
import Derived.Test.YtfcdienphillnaaGreatRd02
import Derived.Test.YtfcdienphillnaaGreatRd01
namespace Go.Proofs.YtfcdienphillnaaGreat
set_option linter.unusedVariables false
set_option linter.unusedSimpArgs false
open Go.RowKit

theorem strN_zero (n : Nat) : strN (List.replicate n 0) = ⟨(Lib.repeatL [0] n).toArray⟩ := by
  apply ByteArray.ext
  apply Array.ext'
  rw [strN, strOfNums_data]
  induction n with
  | zero => rfl
  | succ n ih => simp only [List.replicate_succ, List.map_cons, Lib.repeatL] at ih ⊢; simpa using ih
theorem zeros_i (n : Nat) (w : World) (h : n ≤ 16777216) : Calls Tryz.prog 129 #[.int .i64 n] w fun e w' => e = .returned (.string (strN (List.replicate n 0))) ∧ Below w.heap.size w w' := by
  have HR : ∀ w, Calls Tryz.prog 152 #[.string { data := #[0] }, .int .i64 n] w fun e w' => e = .returned (.string (strN (List.replicate n 0))) ∧ Below w.heap.size w w' := fun w => by
    rw [strN_zero]
    exact Tryz.strings_Repeat { data := #[0] } n w (by omega) (by show 1 * n ≤ _; omega)
  go_enter Tryz.func129, Tryz.ntmps129
  go_wp2_with (go_at_call 152; refine (HR _).mono ?_; rintro e w1 ⟨rfl, hb1⟩)
  go_ret
  exact ⟨rfl, hb1⟩
end Go.Proofs.YtfcdienphillnaaGreat
namespace Go.Proofs.YtfcdienphillnaaGreat
set_option linter.unusedVariables false
set_option linter.unusedSimpArgs false
open Go.RowKit
def geoB (c h p s : Int) : Bool := inB c 1 8 && (inB h 1 2 && (inB p 1 8 && inB s 0 2))
set_option maxHeartbeats 1000000 in
theorem geo_i (c h p s : Int) (w : World) : Calls Tryz.prog 120 #[.int .i64 c, .int .i64 h, .int .i64 p, .int .i64 s] w fun e w' => e = .returned (.bool (geoB c h p s)) ∧ w = w' := by
  unfold geoB
  cases h1 : inB c 1 8
  · go_enter Tryz.func120, Tryz.ntmps120
    go_wp2_with (go_at_call 51; refine (within_i _ _ _ _).mono ?_; rintro e w1 ⟨rfl, rfl⟩)
    go_ret
    exact ⟨rfl, rfl⟩
  · cases h2 : inB h 1 2
    · go_enter Tryz.func120, Tryz.ntmps120
      go_wp2_with (go_at_call 51; refine (within_i _ _ _ _).mono ?_; rintro e w1 ⟨rfl, rfl⟩)
      go_ret
      exact ⟨rfl, rfl⟩
    · cases h3 : inB p 1 8
      · go_enter Tryz.func120, Tryz.ntmps120
        go_wp2_with (go_at_call 51; refine (within_i _ _ _ _).mono ?_; rintro e w1 ⟨rfl, rfl⟩)
        go_ret
        exact ⟨rfl, rfl⟩
      · cases h4 : inB s 0 2
        · go_enter Tryz.func120, Tryz.ntmps120
          go_wp2_with (go_at_call 51; refine (within_i _ _ _ _).mono ?_; rintro e w1 ⟨rfl, rfl⟩)
          go_ret
          exact ⟨rfl, rfl⟩
        · go_enter Tryz.func120, Tryz.ntmps120
          go_wp2_with (go_at_call 51; refine (within_i _ _ _ _).mono ?_; rintro e w1 ⟨rfl, rfl⟩)
          go_ret
          exact ⟨rfl, rfl⟩
set_option maxHeartbeats 1000000 in
theorem geo_s (c h p s : Int) (w : World) : Calls Tryz.prog 114 #[.int .i64 c, .int .i64 h, .int .i64 p, .int .i64 s] w fun e w' => e = .returned (.bool (geoB c h p s)) ∧ w = w' := by
  unfold geoB
  cases h1 : inB c 1 8
  · go_enter Tryz.func114, Tryz.ntmps114
    go_wp2_with (go_at_call 43; refine (in_s _ _ _ _).mono ?_; rintro e w1 ⟨rfl, rfl⟩)
    go_ret
    exact ⟨rfl, rfl⟩
  · cases h2 : inB h 1 2
    · go_enter Tryz.func114, Tryz.ntmps114
      go_wp2_with (go_at_call 43; refine (in_s _ _ _ _).mono ?_; rintro e w1 ⟨rfl, rfl⟩)
      go_ret
      exact ⟨rfl, rfl⟩
    · cases h3 : inB p 1 8
      · go_enter Tryz.func114, Tryz.ntmps114
        go_wp2_with (go_at_call 43; refine (in_s _ _ _ _).mono ?_; rintro e w1 ⟨rfl, rfl⟩)
        go_ret
        exact ⟨rfl, rfl⟩
      · cases h4 : inB s 0 2
        · go_enter Tryz.func114, Tryz.ntmps114
          go_wp2_with (go_at_call 43; refine (in_s _ _ _ _).mono ?_; rintro e w1 ⟨rfl, rfl⟩)
          go_ret
          exact ⟨rfl, rfl⟩
        · go_enter Tryz.func114, Tryz.ntmps114
          go_wp2_with (go_at_call 43; refine (in_s _ _ _ _).mono ?_; rintro e w1 ⟨rfl, rfl⟩)
          go_ret
          exact ⟨rfl, rfl⟩
/-- the number of bytes of a sector -/
def szN (k : Int) : Nat := 8 * 2 ^ k.toNat
theorem szN_le {k : Int} (h : 0 ≤ k ∧ k ≤ 2) : szN k = 8 ∨ szN k = 16 ∨ szN k = 32 := by
  rcases (by omega : k = 0 ∨ k = 1 ∨ k = 2) with rfl | rfl | rfl
  · exact .inl rfl
  · exact .inr (.inl rfl)
  · exact .inr (.inr rfl)
theorem bytes_i (k : Int) (w : World) (h : 0 ≤ k ∧ k ≤ 2) : Calls Tryz.prog 102 #[.int .i64 k] w fun e w' => e = .returned (.int .i64 (szN k : Nat)) ∧ w = w' := by
  rcases (by omega : k = 0 ∨ k = 1 ∨ k = 2) with rfl | rfl | rfl
  all_goals
    go_enter Tryz.func102, Tryz.ntmps102
    go_wp2
    go_ret
    exact ⟨rfl, rfl⟩
theorem bytes_s (k : Int) (w : World) (h : 0 ≤ k ∧ k ≤ 2) : Calls Tryz.prog 116 #[.int .i64 k] w fun e w' => e = .returned (.int .i64 (szN k : Nat)) ∧ w = w' := by
  rcases (by omega : k = 0 ∨ k = 1 ∨ k = 2) with rfl | rfl | rfl
  all_goals
    go_enter Tryz.func116, Tryz.ntmps116
    go_wp2
    go_ret
    exact ⟨rfl, rfl⟩
theorem zeros_s (n : Nat) (w : World) (h : n ≤ 16777216) : Calls Tryz.prog 128 #[.int .i64 n] w fun e w' => e = .returned (.string (strN (List.replicate n 0))) ∧ Below w.heap.size w w' := by
  obtain ⟨wa, hm1, hba, hb1, hz1⟩ := buf_made w n h
  have hst := hba.str (n := n) (c := n) (by simp)
  go_enter Tryz.func128, Tryz.ntmps128
  go_wp2
  go_ret
  exact ⟨rfl, hb1⟩
def secOk (s : Sec) (n : Nat) : Bool := (inB s.state 1 4 && decide (s.data.size = n)) && (s.state != 3 || (s.data.toList == (strN (List.replicate n 0)).toList))
end Go.Proofs.YtfcdienphillnaaGreat
namespace Go.Proofs.YtfcdienphillnaaGreat
set_option linter.unusedVariables false
set_option linter.unusedSimpArgs false
open Go.RowKit
theorem secOk_no1 {s : Sec} {n : Nat} (h : inB s.state 1 4 = false) : secOk s n = false := by unfold secOk; rw [h]; rfl
theorem secOk_no2 {s : Sec} {n : Nat} (h : ¬ s.data.size = n) : secOk s n = false := by unfold secOk; rw [decide_eq_false h, Bool.and_false, Bool.false_and]
theorem secOk_yes {s : Sec} {n : Nat} (h : inB s.state 1 4 = true) (h2 : s.data.size = n) (h3 : (s.state != 3) = true) : secOk s n = true := by unfold secOk; rw [h, decide_eq_true h2, h3]; rfl
theorem secOk_eq {s : Sec} {n : Nat} (h : inB s.state 1 4 = true) (h2 : s.data.size = n) (h3 : (s.state != 3) = false) : secOk s n = (s.data.toList == (strN (List.replicate n 0)).toList) := by unfold secOk; rw [h, decide_eq_true h2, h3]; rfl
set_option maxRecDepth 20000 in
set_option maxHeartbeats 2000000 in
theorem sec_i (s : Sec) (k : Int) (w : World) (hk : 0 ≤ k ∧ k ≤ 2) (hm : s.data.size ≤ maxLen) :
    Calls Tryz.prog 121 #[.agg #[.string s.data, .int .i64 s.state], .int .i64 k] w fun e w' => e = .returned (.bool (secOk s (szN k))) ∧ Below w.heap.size w w' := by
  have hz := szN_le hk
  unfold maxLen at hm
  have e0 : ∀ x : Wb (w.alloc (.cells #[.string s.data, .int .i64 s.state] 70)), x.1.cell? ⟨w.heap.size, 0, none⟩ = some (.string s.data) := fun x => Wb.cell (by simp) x
  have e1 : ∀ x : Wb (w.alloc (.cells #[.string s.data, .int .i64 s.state] 70)), x.1.cell? ⟨w.heap.size, 1, none⟩ = some (.int .i64 s.state) := fun x => Wb.cell (by simp) x
  have B0 : Below w.heap.size w (w.alloc (.cells #[.string s.data, .int .i64 s.state] 70)) := Below.alloc (Below.refl _ _) (Nat.le_refl _) _
  cases h1 : inB s.state 1 4
  · have HF := Lib.hid (secOk_no1 (n := szN k) h1)
    go_enter Tryz.func121, Tryz.ntmps121
    go_wp2_with (fail)
    refine wp_region_wb (by kernel_rfl) (by kernel_rfl) ?_; (repeat (go_big_quiet_step (first | (go_at_call 51; exact Wb.same (within_i _ _ _ _)) | (go_at_call 102; exact Wb.same (bytes_i k _ hk)) | (go_at_call 129; exact Wb.calls (zeros_i (szN k) _ (by omega)))))); refine wpQuiet_nil ?_
    rintro w1 ⟨⟨w1', hb1⟩, rfl⟩
    go_wp2
    go_ret
    exact ⟨ret_bool HF.out.symm, B0.trans (hb1.mono (by simp))⟩
  · by_cases h2 : s.data.size = szN k
    · have d1 : ((s.data.size : Int) != ((szN k : Nat) : Int)) = false := by simp [h2]
      cases h3 : (s.state != 3)
      · have HF := Lib.hid (secOk_eq h1 h2 h3)
        clear h2
        go_enter Tryz.func121, Tryz.ntmps121
        go_wp2_with (fail)
        refine wp_region_wb (by kernel_rfl) (by kernel_rfl) ?_; (repeat (go_big_quiet_step (first | (go_at_call 51; exact Wb.same (within_i _ _ _ _)) | (go_at_call 102; exact Wb.same (bytes_i k _ hk)) | (go_at_call 129; exact Wb.calls (zeros_i (szN k) _ (by omega)))))); refine wpQuiet_nil ?_
        rintro w1 ⟨⟨w1', hb1⟩, rfl⟩
        have f0 : ∀ x : Wb w1, x.1.cell? ⟨w.heap.size, 0, none⟩ = some (.string s.data) := fun x => Wb.cell (e0 ⟨w1, hb1⟩) x
        have f1 : ∀ x : Wb w1, x.1.cell? ⟨w.heap.size, 1, none⟩ = some (.int .i64 s.state) := fun x => Wb.cell (e1 ⟨w1, hb1⟩) x
        go_wp2_with (fail)
        refine wp_region_wb (by kernel_rfl) (by kernel_rfl) ?_; (repeat (go_big_quiet_step (first | (go_at_call 51; exact Wb.same (within_i _ _ _ _)) | (go_at_call 102; exact Wb.same (bytes_i k _ hk)) | (go_at_call 129; exact Wb.calls (zeros_i (szN k) _ (by omega)))))); refine wpQuiet_nil ?_
        rintro w2 ⟨⟨w2', hb2⟩, rfl⟩
        have z1 := hb1.size
        go_wp2
        go_ret
        exact ⟨ret_bool HF.out.symm, (B0.trans (hb1.mono (by simp))).trans (hb2.mono (by simp at z1; omega))⟩
      · have HF := Lib.hid (secOk_yes h1 h2 h3)
        clear h2
        go_enter Tryz.func121, Tryz.ntmps121
        go_wp2_with (fail)
        refine wp_region_wb (by kernel_rfl) (by kernel_rfl) ?_; (repeat (go_big_quiet_step (first | (go_at_call 51; exact Wb.same (within_i _ _ _ _)) | (go_at_call 102; exact Wb.same (bytes_i k _ hk)) | (go_at_call 129; exact Wb.calls (zeros_i (szN k) _ (by omega)))))); refine wpQuiet_nil ?_
        rintro w1 ⟨⟨w1', hb1⟩, rfl⟩
        have f0 : ∀ x : Wb w1, x.1.cell? ⟨w.heap.size, 0, none⟩ = some (.string s.data) := fun x => Wb.cell (e0 ⟨w1, hb1⟩) x
        have f1 : ∀ x : Wb w1, x.1.cell? ⟨w.heap.size, 1, none⟩ = some (.int .i64 s.state) := fun x => Wb.cell (e1 ⟨w1, hb1⟩) x
        go_wp2_with (fail)
        refine wp_region_wb (by kernel_rfl) (by kernel_rfl) ?_; (repeat (go_big_quiet_step (first | (go_at_call 51; exact Wb.same (within_i _ _ _ _)) | (go_at_call 102; exact Wb.same (bytes_i k _ hk)) | (go_at_call 129; exact Wb.calls (zeros_i (szN k) _ (by omega)))))); refine wpQuiet_nil ?_
        rintro w2 ⟨⟨w2', hb2⟩, rfl⟩
        have z1 := hb1.size
        go_wp2
        go_ret
        exact ⟨ret_bool HF.out.symm, (B0.trans (hb1.mono (by simp))).trans (hb2.mono (by simp at z1; omega))⟩
    · have d1 : ((s.data.size : Int) != ((szN k : Nat) : Int)) = true := by simp; omega
      have HF := Lib.hid (secOk_no2 h2)
      clear h2
      go_enter Tryz.func121, Tryz.ntmps121
      go_wp2_with (fail)
      refine wp_region_wb (by kernel_rfl) (by kernel_rfl) ?_; (repeat (go_big_quiet_step (first | (go_at_call 51; exact Wb.same (within_i _ _ _ _)) | (go_at_call 102; exact Wb.same (bytes_i k _ hk)) | (go_at_call 129; exact Wb.calls (zeros_i (szN k) _ (by omega)))))); refine wpQuiet_nil ?_
      rintro w1 ⟨⟨w1', hb1⟩, rfl⟩
      go_wp2
      go_ret
      exact ⟨ret_bool HF.out.symm, B0.trans (hb1.mono (by simp))⟩
set_option maxRecDepth 20000 in
set_option maxHeartbeats 2000000 in
theorem sec_s (s : Sec) (n : Nat) (w : World) (hn : n ≤ 64) (hm : s.data.size ≤ maxLen) :
    Calls Tryz.prog 115 #[.agg #[.string s.data, .int .i64 s.state], .int .i64 n] w fun e w' => e = .returned (.bool (secOk s n)) ∧ Below w.heap.size w w' := by
  unfold maxLen at hm
  have e0 : ∀ x : Wb (w.alloc (.cells #[.string s.data, .int .i64 s.state] 70)), x.1.cell? ⟨w.heap.size, 0, none⟩ = some (.string s.data) := fun x => Wb.cell (by simp) x
  have e1 : ∀ x : Wb (w.alloc (.cells #[.string s.data, .int .i64 s.state] 70)), x.1.cell? ⟨w.heap.size, 1, none⟩ = some (.int .i64 s.state) := fun x => Wb.cell (by simp) x
  have B0 : Below w.heap.size w (w.alloc (.cells #[.string s.data, .int .i64 s.state] 70)) := Below.alloc (Below.refl _ _) (Nat.le_refl _) _
  by_cases h2 : s.data.size = n
  · have d1 : ((s.data.size : Int) != (n : Int)) = false := by simp [h2]
    cases h1 : inB s.state 1 4
    · have HF := Lib.hid (secOk_no1 (n := n) h1)
      clear h2
      go_enter Tryz.func115, Tryz.ntmps115
      go_wp2_with (go_at_call 43; refine (in_s _ _ _ _).mono ?_; rintro e w1 ⟨rfl, rfl⟩)
      go_ret
      exact ⟨ret_bool HF.out.symm, B0⟩
    · cases h3 : (s.state != 3)
      · have HF := Lib.hid (secOk_eq h1 h2 h3)
        clear h2
        go_enter Tryz.func115, Tryz.ntmps115
        go_wp2_with (go_at_call 43; refine (in_s _ _ _ _).mono ?_; rintro e w1 ⟨rfl, rfl⟩)
        refine wp_region_wb (by kernel_rfl) (by kernel_rfl) ?_; (repeat (go_big_quiet_step (first | (go_at_call 43; exact Wb.same (in_s _ _ _ _)) | (go_at_call 128; exact Wb.calls (zeros_s n _ (by omega)))))); refine wpQuiet_nil ?_
        rintro w2 ⟨⟨w2', hb2⟩, rfl⟩
        go_wp2
        go_ret
        exact ⟨ret_bool HF.out.symm, B0.trans (hb2.mono (by simp))⟩
      · have HF := Lib.hid (secOk_yes h1 h2 h3)
        clear h2
        go_enter Tryz.func115, Tryz.ntmps115
        go_wp2_with (go_at_call 43; refine (in_s _ _ _ _).mono ?_; rintro e w1 ⟨rfl, rfl⟩)
        refine wp_region_wb (by kernel_rfl) (by kernel_rfl) ?_; (repeat (go_big_quiet_step (first | (go_at_call 43; exact Wb.same (in_s _ _ _ _)) | (go_at_call 128; exact Wb.calls (zeros_s n _ (by omega)))))); refine wpQuiet_nil ?_
        rintro w2 ⟨⟨w2', hb2⟩, rfl⟩
        go_wp2
        go_ret
        exact ⟨ret_bool HF.out.symm, B0.trans (hb2.mono (by simp))⟩
  · have d1 : ((s.data.size : Int) != (n : Int)) = true := by simp; omega
    have HF := Lib.hid (secOk_no2 h2)
    clear h2
    go_enter Tryz.func115, Tryz.ntmps115
    go_wp2_with (go_at_call 43; refine (in_s _ _ _ _).mono ?_; rintro e w1 ⟨rfl, rfl⟩)
    go_ret
    exact ⟨ret_bool HF.out.symm, B0⟩
end Go.Proofs.YtfcdienphillnaaGreat
namespace Go.Proofs.YtfcdienphillnaaGreat
set_option linter.unusedVariables false
set_option linter.unusedSimpArgs false
open Go.RowKit
def discOk (d : Dsc) : Bool := geoB d.cyl d.heads d.per d.size && (((d.secs.length : Int) == d.cyl * d.heads * d.per) && d.secs.all fun s => secOk s (szN d.size))
theorem dk_no1 {d : Dsc} (h : geoB d.cyl d.heads d.per d.size = false) : discOk d = false := by unfold discOk; rw [h, Bool.false_and]
theorem dk_no2 {d : Dsc} (h2 : ((d.secs.length : Int) == d.cyl * d.heads * d.per) = false) : discOk d = false := by unfold discOk; rw [h2, Bool.false_and, Bool.and_false]
theorem dk_yes {d : Dsc} (h : geoB d.cyl d.heads d.per d.size = true) (h2 : ((d.secs.length : Int) == d.cyl * d.heads * d.per) = true) : discOk d = d.secs.all fun s => secOk s (szN d.size) := by unfold discOk; rw [h, h2]; rfl
theorem geo_parts {c h p s : Int} (hg : geoB c h p s = true) : (1 ≤ c ∧ c ≤ 8) ∧ (1 ≤ h ∧ h ≤ 2) ∧ (1 ≤ p ∧ p ≤ 8) ∧ (0 ≤ s ∧ s ≤ 2) := by
  unfold geoB at hg
  simp only [Bool.and_eq_true] at hg
  exact ⟨inB_yes hg.1, inB_yes hg.2.1, inB_yes hg.2.2.1, inB_yes hg.2.2.2⟩
theorem prod_bd {c h p : Int} (h1 : 1 ≤ c ∧ c ≤ 8) (h2 : 1 ≤ h ∧ h ≤ 2) (h3 : 1 ≤ p ∧ p ≤ 8) : (1 ≤ c * h ∧ c * h ≤ 16) ∧ (1 ≤ c * h * p ∧ c * h * p ≤ 128) := by
  rcases (by omega : h = 1 ∨ h = 2) with rfl | rfl
  · have : (c = 1 ∨ c = 2 ∨ c = 3 ∨ c = 4 ∨ c = 5 ∨ c = 6 ∨ c = 7 ∨ c = 8) := by omega
    rcases this with rfl | rfl | rfl | rfl | rfl | rfl | rfl | rfl <;> omega
  · have : (c = 1 ∨ c = 2 ∨ c = 3 ∨ c = 4 ∨ c = 5 ∨ c = 6 ∨ c = 7 ∨ c = 8) := by omega
    rcases this with rfl | rfl | rfl | rfl | rfl | rfl | rfl | rfl <;> omega
theorem da_yes {l : List Sec} {k n : Nat} {s : Sec} {X : Bool} (he : l[k]? = some s) (H : Hid (X = (l.drop k).all fun s => secOk s n)) (h : secOk s n = true) : Hid (X = (l.drop (k + 1)).all fun s => secOk s n) := by
  obtain ⟨hk, rfl⟩ := List.getElem?_eq_some_iff.1 he
  exact Lib.hid (by rw [H.out, List.drop_eq_getElem_cons hk, List.all_cons, h, Bool.true_and])
theorem da_no {l : List Sec} {k n : Nat} {s : Sec} {X : Bool} (he : l[k]? = some s) (H : Hid (X = (l.drop k).all fun s => secOk s n)) (h : secOk s n = false) : X = false := by
  obtain ⟨hk, rfl⟩ := List.getElem?_eq_some_iff.1 he
  rw [H.out, List.drop_eq_getElem_cons hk, List.all_cons, h, Bool.false_and]
theorem da_end {l : List Sec} {k n : Nat} {X : Bool} (hk : l.length ≤ k) (H : Hid (X = (l.drop k).all fun s => secOk s n)) : X = true := by
  rw [H.out, List.drop_of_length_le hk]; rfl
theorem size_sec (A : Option Addr) (n c : Nat) (w : World) (hn : n ≤ 1048576) : Calls Tryz.prog 87 #[.slice A n c] w fun e w' => e = .returned (.int .i64 n) ∧ w = w' := by
  go_enter Tryz.func87, Tryz.ntmps87
  go_wp2
  go_ret
  exact ⟨rfl, rfl⟩
set_option maxRecDepth 20000 in
set_option maxHeartbeats 4000000 in
theorem disc_i (B : Nat) (d : Dsc) (bv : Value) (w : World) (h : SecOwn B w bv d.secs) (hn : d.secs.length ≤ 1048576) (hm : ∀ s ∈ d.secs, s.data.size ≤ maxLen) :
    Calls Tryz.prog 84 #[dscV d bv] w fun e w' => e = .returned (.bool (discOk d)) ∧ Below w.heap.size w w' := by
  obtain ⟨A, c, rfl, hA⟩ := OwnL.shape h
  have hc : ∀ (g : Nat), A = some ⟨g, 0, none⟩ → ∀ (k : Nat) (s : Sec), d.secs[k]? = some s → w.cell? ⟨g, k * 2, none⟩ = some (.string s.data) ∧ w.cell? ⟨g, k * 2 + 1, none⟩ = some (.int .i64 s.state) := fun g hg k s hk => by
    subst hg
    exact ⟨OwnL.cell Sec.len h hk (j := 0) rfl, OwnL.cell Sec.len h hk (j := 1) rfl⟩
  have HC := Lib.hid hc
  clear hc h
  have e0 : ∀ x : Wb (w.alloc (.cells #[.int .i64 d.cyl, .int .i64 d.heads, .int .i64 d.per, .int .i64 d.size, .slice A d.secs.length c] 43)), x.1.cell? ⟨w.heap.size, 0, none⟩ = some (.int .i64 d.cyl) := fun x => Wb.cell (by simp) x
  have e1 : ∀ x : Wb (w.alloc (.cells #[.int .i64 d.cyl, .int .i64 d.heads, .int .i64 d.per, .int .i64 d.size, .slice A d.secs.length c] 43)), x.1.cell? ⟨w.heap.size, 1, none⟩ = some (.int .i64 d.heads) := fun x => Wb.cell (by simp) x
  have e2 : ∀ x : Wb (w.alloc (.cells #[.int .i64 d.cyl, .int .i64 d.heads, .int .i64 d.per, .int .i64 d.size, .slice A d.secs.length c] 43)), x.1.cell? ⟨w.heap.size, 2, none⟩ = some (.int .i64 d.per) := fun x => Wb.cell (by simp) x
  have e3 : ∀ x : Wb (w.alloc (.cells #[.int .i64 d.cyl, .int .i64 d.heads, .int .i64 d.per, .int .i64 d.size, .slice A d.secs.length c] 43)), x.1.cell? ⟨w.heap.size, 3, none⟩ = some (.int .i64 d.size) := fun x => Wb.cell (by simp) x
  have e4 : ∀ x : Wb (w.alloc (.cells #[.int .i64 d.cyl, .int .i64 d.heads, .int .i64 d.per, .int .i64 d.size, .slice A d.secs.length c] 43)), x.1.cell? ⟨w.heap.size, 4, none⟩ = some (.slice A d.secs.length c) := fun x => Wb.cell (by simp) x
  have B0 : Below w.heap.size w (w.alloc (.cells #[.int .i64 d.cyl, .int .i64 d.heads, .int .i64 d.per, .int .i64 d.size, .slice A d.secs.length c] 43)) := Below.alloc (Below.refl _ _) (Nat.le_refl _) _
  cases h1 : geoB d.cyl d.heads d.per d.size
  · have HF := Lib.hid (dk_no1 h1)
    go_enter Tryz.func84, Tryz.ntmps84
    go_wp2_with (fail)
    refine wp_region_wb (by kernel_rfl) (by kernel_rfl) ?_; (repeat (go_big_quiet_step (first | (go_at_call 120; exact Wb.same (geo_i _ _ _ _ _)) | (go_at_call 87; exact Wb.same (size_sec _ _ _ _ (by omega)))))); refine wpQuiet_nil ?_; rintro w1 ⟨⟨w1', hb1⟩, rfl⟩
    go_wp2
    go_ret
    exact ⟨ret_bool HF.out.symm, B0.trans (hb1.mono (by simp))⟩
  · obtain ⟨g1, g2, g3, g4⟩ := geo_parts h1
    obtain ⟨m1, m2⟩ := prod_bd g1 g2 g3
    cases h2 : ((d.secs.length : Int) == d.cyl * d.heads * d.per)
    · have HF := Lib.hid (dk_no2 h2)
      have h2' : ((d.secs.length : Int) != d.cyl * d.heads * d.per) = true := by unfold bne; rw [h2]; rfl
      go_enter Tryz.func84, Tryz.ntmps84
      go_wp2_with (fail)
      refine wp_region_wb (by kernel_rfl) (by kernel_rfl) ?_; (repeat (go_big_quiet_step (first | (go_at_call 120; exact Wb.same (geo_i _ _ _ _ _)) | (go_at_call 87; exact Wb.same (size_sec _ _ _ _ (by omega)))))); refine wpQuiet_nil ?_; rintro w1 ⟨⟨w1', hb1⟩, rfl⟩
      go_wp2
      go_ret
      exact ⟨ret_bool HF.out.symm, B0.trans (hb1.mono (by simp))⟩
    · have HF := Lib.hid (dk_yes h1 h2)
      have h2' : ((d.secs.length : Int) != d.cyl * d.heads * d.per) = false := by unfold bne; rw [h2]; rfl
      go_enter Tryz.func84, Tryz.ntmps84
      go_wp2_with (fail)
      refine wp_region_wb (by kernel_rfl) (by kernel_rfl) ?_; (repeat (go_big_quiet_step (first | (go_at_call 120; exact Wb.same (geo_i _ _ _ _ _)) | (go_at_call 87; exact Wb.same (size_sec _ _ _ _ (by omega)))))); refine wpQuiet_nil ?_; rintro w1 ⟨⟨w1', hb1⟩, rfl⟩
      have p4 : w1.cell? ⟨w.heap.size, 4, none⟩ = some (.slice A d.secs.length c) := e4 ⟨w1, hb1⟩
      have p3 : w1.cell? ⟨w.heap.size, 3, none⟩ = some (.int .i64 d.size) := e3 ⟨w1, hb1⟩
      have z1 : w.heap.size + 1 ≤ w1.heap.size := by have := hb1.size; simpa using this
      have B1 : Below w.heap.size w w1 := B0.trans (hb1.mono (by simp))
      clear e0 e1 e2 e3 e4 h2 h2' h1
      go_wp2
      go_loopw [32] (fun i wr => ∃ k : Nat, k ≤ d.secs.length ∧ i = .int .i64 k ∧ Below w1.heap.size w1 wr ∧ Hid (discOk d = (d.secs.drop k).all fun s => secOk s (szN d.size))) (fun i _ => d.secs.length - (intOf i).toNat)
      case atStart => exact ⟨0, by omega, rfl, Below.refl _ _, HF⟩
      case round =>
        obtain ⟨k, hk, rfl, hb, HK⟩ := hrel
        have zr := hb.size
        have BR : Below w.heap.size w wr := B1.trans (hb.mono (by omega))
        by_cases hlt : k < d.secs.length
        · obtain ⟨s, hs⟩ : ∃ s, d.secs[k]? = some s := ⟨d.secs[k], List.getElem?_eq_getElem hlt⟩
          obtain ⟨g, rfl, _, hg⟩ := hA.resolve_left (by intro h0; rw [h0] at hlt; simp at hlt)
          obtain ⟨c0, c1⟩ := HC.out g rfl k s hs
          have q0 := (BR.cell (p := ⟨g, _, none⟩) hg).trans c0
          have q1 := (BR.cell (p := ⟨g, _, none⟩) hg).trans c1
          have q3 := (hb.cell (p := ⟨w.heap.size, 3, none⟩) (by show w.heap.size < _; omega)).trans p3
          have q3' : ∀ o : Obj, (wr.alloc o).cell? ⟨w.heap.size, 3, none⟩ = some (.int .i64 d.size) := fun o => (World.cell?_alloc_old _ _ _ (by show w.heap.size ≠ _; omega)).trans q3
          have hms := hm s (List.mem_of_getElem? hs)
          have HS := Lib.hid hs
          clear c0 c1 hs
          cases h5 : secOk s (szN d.size)
          · have HN := da_no HS.out HK h5
            go_wp2_with (go_at_call 121; refine (sec_i s d.size _ g4 hms).mono ?_; rw [h5]; rintro e w2 ⟨rfl, hb2⟩)
            go_ret
            exact ⟨ret_bool HN.symm, (by repeat (first | exact Below.refl _ _ | refine Below.alloc ?_ (by first | omega | (simp; done) | (simp; omega)) _ | apply Below.drew | apply below_drewN | refine Below.setCell ?_ (by first | omega | (simp; done) | (simp; omega)) _ | refine Below.trans ?_ (Below.mono (by assumption) (by first | omega | (simp; done) | (simp; omega)))))⟩
          · have HN := da_yes HS.out HK h5
            go_wp2_with (go_at_call 121; refine (sec_i s d.size _ g4 hms).mono ?_; rw [h5]; rintro e w2 ⟨rfl, hb2⟩)
            go_roundw
            case rel => exact ⟨k + 1, by omega, by go_num, (Below.alloc hb zr _).trans (hb2.mono (by simp; omega)), HN⟩
            case measure => simp [intOf]; omega
        · go_wp2
          go_ret
          exact ⟨ret_bool (da_end (by omega) HK).symm, BR⟩
end Go.Proofs.YtfcdienphillnaaGreat
namespace Go.Proofs.YtfcdienphillnaaGreat
set_option linter.unusedVariables false
set_option linter.unusedSimpArgs false
open Go.RowKit
end Go.Proofs.YtfcdienphillnaaGreat
namespace Go.Proofs.YtfcdienphillnaaGreat
set_option linter.unusedVariables false
set_option linter.unusedSimpArgs false
open Go.RowKit
/-- the kind of the first source of a sector, 0 if there is none -/
def kinN (x : Int) : List Src → Int
  | [] => 0
  | s :: r => if s.sector == x then s.kind else kinN x r
def uncB (l : List Src) (s : Sec) (k : Nat) : Bool := s.state != 3 && kinN k l == 0
def uncN (l : List Src) : Nat → List Sec → List Int
  | _, [] => []
  | k, s :: r => if uncB l s k then (k : Int) :: uncN l (k + 1) r else uncN l (k + 1) r
def uncE (d : Dsc) (l : List Src) : List Int × Int := if discOk d && certOk l then (uncN l 0 d.secs, 0) else ([], 1)
end Go.Proofs.YtfcdienphillnaaGreat
namespace Go.Proofs.YtfcdienphillnaaGreat
set_option linter.unusedVariables false
set_option linter.unusedSimpArgs false
open Go.RowKit
def Row (w : World) (b : Nat) (us : List Value) : Prop := ∀ j u, us[j]? = some u → w.cell? ⟨b, j, none⟩ = some u
theorem Row.below {w w' : World} {b : Nat} {us : List Value} (h : Row w b us) (hb : Below w.heap.size w w') (hl : b < w.heap.size) : Row w' b us := fun j u hu => (hb.cell (p := ⟨b, j, none⟩) hl).trans (h j u hu)
theorem Row.alloc (w : World) (cs : Array Value) (e : TypeId) : Row (w.alloc (.cells cs e)) w.heap.size cs.toList := by
  intro j u hu
  simp [go_sem]
  simpa using hu
abbrev dscL (d : Dsc) (v : Value) : List Value := [.int .i64 d.cyl, .int .i64 d.heads, .int .i64 d.per, .int .i64 d.size, v]
abbrev OwnD (B E : Nat) (w : World) (v : Value) (l : List Sec) : Prop := RSectorS.own B E w v l
theorem OwnD.of {B : Nat} {w : World} {v : Value} {l : List Sec} (h : SecOwn B w v l) : OwnD B w.heap.size w v l := ⟨h, fun g hg => (World.ownsRow.lt h g hg).2⟩
theorem OwnD.below {B E : Nat} {w w' : World} {v : Value} {l : List Sec} (h : OwnD B E w v l) (hb : Below w.heap.size w w') : OwnD B E w' v l := Rep.keep (R := RSectorS) h hb
theorem OwnD.chg {B E B' E' : Nat} {w w' : World} {v : Value} {l : List Sec} (h : OwnD B E w v l) (hc : Chg B' E' w w') (hd : E ≤ B' ∨ E' ≤ B) : OwnD B E w' v l := RSectorS.chg h hc hd
theorem Row.chg {w w' : World} {b B E : Nat} {us : List Value} (h : Row w b us) (hc : Chg B E w w') (hl : b < w.heap.size) (hd : b < B ∨ E ≤ b) : Row w' b us := fun j u hu => (World.cell?_of_block (a := ⟨b, j, none⟩) (hc.block b hl (by omega))).trans (h j u hu)
abbrev Five (d : Dsc) (v : Value) (b : Nat) (w : World) : Prop := w.cell? ⟨b, 0, none⟩ = some (.int .i64 d.cyl) ∧ w.cell? ⟨b, 1, none⟩ = some (.int .i64 d.heads) ∧ w.cell? ⟨b, 2, none⟩ = some (.int .i64 d.per) ∧ w.cell? ⟨b, 3, none⟩ = some (.int .i64 d.size) ∧ w.cell? ⟨b, 4, none⟩ = some v
end Go.Proofs.YtfcdienphillnaaGreat
namespace Go.Proofs.YtfcdienphillnaaGreat
set_option linter.unusedVariables false
set_option linter.unusedSimpArgs false
open Go.RowKit

def icell (e : Int) : List Value := [.int .i64 e]
theorem icell_len (e : Int) : (icell e).length = 1 := rfl
abbrev Int64L (B : Nat) (w : World) (v : Value) (l : List Int) : Prop := OwnL icell 1 2 B w v l
theorem icell_info : (Tryz.prog.info? 2).map (fun i => (i.zero, i.size, i.bytes)) = some (some (.int .i64 0), 1, 8) := by kernel_rfl
theorem Int64L.at_ {B g c k n : Nat} {w : World} {l : List Int} {e : Int} (h : Int64L B w (.slice (some ⟨g, 0, none⟩) n c) l) (hn : l.length = n) (he : l[k]? = some e) : w.cell? ⟨g, k, none⟩ = some (.int .i64 e) := by
  subst hn
  have := OwnL.cell icell_len h he (j := 0) rfl
  simpa using this
def icellM (k : Nat) : Int := ((k : Nat) : Int)
def icellMs (k n : Nat) : List Int := (List.range n).map fun i => icellM (k + i)
def MarkedInt64 (B : Nat) (w : World) (v : Value) (k0 n : Nat) (e : Ending) (w' : World) : Prop :=
  e = .returned (.int .i64 ((k0 + n : Nat) : Int)) ∧ Int64L B w' v (icellMs k0 n) ∧ w.grownBy w' v.ownBlock
/- []int64 in memory -/
def RInt64S : Rep (List Int) := RepL icell 1 2 (fun e => 0) (fun e => True) icellMs
end Go.Proofs.YtfcdienphillnaaGreat
namespace Go.Proofs.YtfcdienphillnaaGreat
set_option linter.unusedVariables false
set_option linter.unusedSimpArgs false
open Go.RowKit
structure Evd where
  ds : List Dsc
  cr : List Int
  p : List ByteArray
  q : List ByteArray
abbrev evV (a b c d : Value) : Value := .agg #[a, b, c, d]
abbrev StrIn (w : World) (v : Value) (l : List ByteArray) : Prop := RawL scell 1 w v l ∧ ∀ e ∈ l, e.size ≤ maxLen
theorem RawL.far {α : Type} {f : α → List Value} {z : Nat} {w w' : World} {v : Value} {l : List α} (h : RawL f z w v l) (hb : Below w.heap.size w w') : RawL f z w' v l := h.below hb
/-- evidence that came in -/
structure EvIn (w : World) (e : Evd) (a b c d : Value) : Prop where
  ds : DscIn w a e.ds
  cr : RawL icell 1 w b e.cr
  p : StrIn w c e.p
  q : StrIn w d e.q
theorem EvIn.below {w w' : World} {e : Evd} {a b c d : Value} (h : EvIn w e a b c d) (hb : Below w.heap.size w w') : EvIn w' e a b c d := ⟨h.ds.below hb, h.cr.below hb, ⟨h.p.1.below hb, h.p.2⟩, ⟨h.q.1.below hb, h.q.2⟩⟩
theorem DscOwn.far {B g o : Nat} {w : World} {v u : Value} {l : List Dsc} (h : DscOwn B w v l) (hg : g < B) : DscOwn B (w.setCell ⟨g, o, none⟩ u) v l := by
  obtain ⟨A, c, rfl, hA⟩ := h
  refine ⟨A, c, rfl, ?_⟩
  rcases hA with hA | ⟨k, rfl, hk, hlt, hc⟩
  · exact .inl hA
  · refine .inr ⟨k, rfl, hk, by simpa using hlt, fun i e he => ?_⟩
    obtain ⟨bv, o1, c1⟩ := hc i e he
    exact ⟨bv, far_set o1 hg, fun j u hu => (World.cell?_setCell_other _ _ _ _ (by intro e; injection e with e _ _; omega)).trans (c1 j u hu)⟩
theorem DscOwn.base {B B' : Nat} {w : World} {v : Value} {l : List Dsc} (h : DscOwn B w v l) (hB : B' ≤ B) : DscOwn B' w v l := by
  obtain ⟨A, c, rfl, hA⟩ := h
  refine ⟨A, c, rfl, ?_⟩
  rcases hA with hA | ⟨k, rfl, hk, hlt, hc⟩
  · exact .inl hA
  · refine .inr ⟨k, rfl, Nat.le_trans hB hk, hlt, fun i e he => ?_⟩
    obtain ⟨bv, o1, c1⟩ := hc i e he
    exact ⟨bv, OwnL.base o1 hB, c1⟩
theorem DscOwn.shape {B : Nat} {w : World} {v : Value} {l : List Dsc} (h : DscOwn B w v l) : ∃ A c, v = .slice A l.length c := by
  obtain ⟨A, c, rfl, _⟩ := h
  exact ⟨A, c, rfl⟩
/-- evidence that the call has made -/
structure EvOwn (B : Nat) (w : World) (e : Evd) (a b c d : Value) : Prop where
  ds : DscOwn B w a e.ds
  cr : Int64L B w b e.cr
  p : StringL B w c e.p
  q : StringL B w d e.q
theorem EvOwn.below {B : Nat} {w w' : World} {e : Evd} {a b c d : Value} (h : EvOwn B w e a b c d) (hb : Below w.heap.size w w') : EvOwn B w' e a b c d := ⟨h.ds.below hb, OwnL.below h.cr hb, OwnL.below h.p hb, OwnL.below h.q hb⟩
theorem EvOwn.shape {B : Nat} {w : World} {e : Evd} {a b c d : Value} (h : EvOwn B w e a b c d) : ∃ A n B' k C i D j, a = .slice A e.ds.length n ∧ b = .slice B' e.cr.length k ∧ c = .slice C e.p.length i ∧ d = .slice D e.q.length j := by
  obtain ⟨A, n, h1⟩ := h.ds.shape
  obtain ⟨B', k, h2, _⟩ := OwnL.shape h.cr
  obtain ⟨C, i, h3, _⟩ := OwnL.shape h.p
  obtain ⟨D, j, h4, _⟩ := OwnL.shape h.q
  exact ⟨A, n, B', k, C, i, D, j, h1, h2, h3, h4⟩
def evW (e : Evd) : List Nat := [e.ds.length + Dsc.wts e.ds, e.cr.length, e.p.length + swts e.p, e.q.length + swts e.q]
def evZ (x : Int) (e : Evd) : Int := szR (szR (szR (szR x (e.ds.length + Dsc.wts e.ds)) e.cr.length) (e.p.length + swts e.p)) (e.q.length + swts e.q)
theorem Row.set {w : World} {b : Nat} {us : List Value} (h : Row w b us) {o : Nat} (v : Value) (ho : o < us.length) : Row (w.setCell ⟨b, o, none⟩ v) b (us.set o v) := by
  intro j u hu
  by_cases hj : o = j
  · subst hj
    rw [List.getElem?_set_self ho] at hu
    injection hu with hu
    subst hu
    exact World.cell?_setCell_same _ _ _ (h o _ (List.getElem?_eq_getElem ho))
  · rw [List.getElem?_set_ne hj] at hu
    exact (World.cell?_setCell_other w _ _ v (ne_off hj)).trans (h j u hu)
theorem Row.set_other {w : World} {b g : Nat} {us : List Value} (h : Row w b us) {o : Nat} (v : Value) (hg : b ≠ g) : Row (w.setCell ⟨g, o, none⟩ v) b us := fun j u hu => (World.cell?_setCell_other w _ _ v (fun e => by injection e with e1; exact hg e1.symm)).trans (h j u hu)
theorem setCell_frozen (w : World) (p q : Addr) (u : Value) : (w.setCell p u).frozen? q = w.frozen? q := by simp [go_sem]
theorem setCell_size (w : World) (p : Addr) (u : Value) : (w.setCell p u).heap.size = w.heap.size := by simp [go_sem]
theorem frozen_below {w w' : World} {b : Nat} {v : Bool} (h : ∀ o, w.frozen? ⟨b, o, none⟩ = v) (hb : Below w.heap.size w w') (hl : b < w.heap.size) : ∀ o, w'.frozen? ⟨b, o, none⟩ = v := fun o => (hb.frozen (p := ⟨b, o, none⟩) hl).trans (h o)
end Go.Proofs.YtfcdienphillnaaGreat
