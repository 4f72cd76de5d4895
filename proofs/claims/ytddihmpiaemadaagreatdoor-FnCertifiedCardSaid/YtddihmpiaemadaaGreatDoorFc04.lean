/- Contracts of the library over this program (printed by the kit, over the functions of this seat). zeros: its contract. Geometries and sectors that are valid, impl and spec: the walks. Sectors that are valid, impl and spec: the walks. Discs that are valid, impl and spec: the walks. Discs that are valid, the reference: the walks. -/
import Derived.Test.YtddihmpiaemadaaGreatDoorProg
import Derived.Test.YtddihmpiaemadaaGreatDoorFc02
import Derived.Test.YtddihmpiaemadaaGreatDoorFc03
import Derived.Shelf.Strings.Repeat
namespace Go.Proofs
open Go.Shelf
def Tryz.lays105_ren : Go.Shelf.Ren := ⟨fun | 105 => 101 | 212 => 136 | 99 => 137 | 165 => 138 | 166 => 32 | 170 => 139 | 169 => 34 | 263 => 171 | 264 => 172 | 206 => 173 | 240 => 71 | 241 => 174 | 276 => 95 | 277 => 188 | n => n, fun | 9 => 9 | 3 => 3 | 4 => 4 | 20 => 20 | 0 => 0 | 46 => 133 | 109 => 181 | 5 => 5 | 72 => 77 | 76 => 80 | 51 => 161 | 146 => 204 | 53 => 84 | 148 => 220 | 70 => 75 | 37 => 22 | 75 => 79 | 127 => 120 | 164 => 145 | 80 => 83 | n => n, fun | n => n⟩
theorem Tryz.lays105 : Go.Proofs.Lays.n105 Tryz.prog Tryz.lays105_ren := {
  mixed := by kernel_rfl
  f99 := Tryz.func137.trans (congrArg some (by kernel_rfl))
  f105 := Tryz.func101.trans (congrArg some (by kernel_rfl))
  f165 := Tryz.func138.trans (congrArg some (by kernel_rfl))
  f166 := Tryz.func32.trans (congrArg some (by kernel_rfl))
  f169 := Tryz.func34.trans (congrArg some (by kernel_rfl))
  f170 := Tryz.func139.trans (congrArg some (by kernel_rfl))
  f206 := Tryz.func173.trans (congrArg some (by kernel_rfl))
  f212 := Tryz.func136.trans (congrArg some (by kernel_rfl))
  f240 := Tryz.func71.trans (congrArg some (by kernel_rfl))
  f241 := Tryz.func174.trans (congrArg some (by kernel_rfl))
  f263 := Tryz.func171.trans (congrArg some (by kernel_rfl))
  f264 := Tryz.func172.trans (congrArg some (by kernel_rfl))
  f276 := Tryz.func95.trans (congrArg some (by kernel_rfl))
  f277 := Tryz.func188.trans (congrArg some (by kernel_rfl))
  t0 := Tryz.underlying0
  a0 := Tryz.isAgg0
  z0 := Tryz.sizeOf0
  v0 := Tryz.zeroValue0
  t3 := Tryz.underlying3
  a3 := Tryz.isAgg3
  z3 := Tryz.sizeOf3
  v3 := Tryz.zeroValue3
  t4 := Tryz.underlying4
  a4 := Tryz.isAgg4
  z4 := Tryz.sizeOf4
  v4 := Tryz.zeroValue4
  t5 := Tryz.underlying5
  a5 := Tryz.isAgg5
  z5 := Tryz.sizeOf5
  v5 := Tryz.zeroValue5
  t9 := Tryz.underlying9
  a9 := Tryz.isAgg9
  z9 := Tryz.sizeOf9
  v9 := Tryz.zeroValue9
  t20 := Tryz.underlying20
  a20 := Tryz.isAgg20
  z20 := Tryz.sizeOf20
  v20 := Tryz.zeroValue20
  t37 := Tryz.underlying22
  a37 := Tryz.isAgg22
  z37 := Tryz.sizeOf22
  v37 := Tryz.zeroValue22
  t46 := Tryz.underlying133
  a46 := Tryz.isAgg133
  z46 := Tryz.sizeOf133
  v46 := Tryz.zeroValue133
  t51 := Tryz.underlying161
  a51 := Tryz.isAgg161
  z51 := Tryz.sizeOf161
  v51 := Tryz.zeroValue161
  t53 := Tryz.underlying84
  a53 := Tryz.isAgg84
  z53 := Tryz.sizeOf84
  v53 := Tryz.zeroValue84
  t70 := Tryz.underlying75
  a70 := Tryz.isAgg75
  z70 := Tryz.sizeOf75
  v70 := Tryz.zeroValue75
  t72 := Tryz.underlying77
  a72 := Tryz.isAgg77
  z72 := Tryz.sizeOf77
  v72 := Tryz.zeroValue77
  t75 := Tryz.underlying79
  a75 := Tryz.isAgg79
  z75 := Tryz.sizeOf79
  v75 := Tryz.zeroValue79
  t76 := Tryz.underlying80
  a76 := Tryz.isAgg80
  z76 := Tryz.sizeOf80
  v76 := Tryz.zeroValue80
  t109 := Tryz.underlying181
  a109 := Tryz.isAgg181
  z109 := Tryz.sizeOf181
  v109 := Tryz.zeroValue181
  t127 := Tryz.underlying120
  a127 := Tryz.isAgg120
  z127 := Tryz.sizeOf120
  v127 := Tryz.zeroValue120
  t146 := Tryz.underlying204
  a146 := Tryz.isAgg204
  z146 := Tryz.sizeOf204
  v146 := Tryz.zeroValue204
  t148 := Tryz.underlying220
  a148 := Tryz.isAgg220
  z148 := Tryz.sizeOf220
  v148 := Tryz.zeroValue220
  t164 := Tryz.underlying145
  a164 := Tryz.isAgg145
  z164 := Tryz.sizeOf145
  v164 := Tryz.zeroValue145 }
theorem Tryz.Builder_Extra_105 : Builder.Extra Tryz.prog Tryz.lays105_ren := {
  sizeBuilder := by kernel_rfl
  liesBuilder := by kernel_rfl
  t5 := Tryz.underlying5
  a5 := Tryz.isAgg5
  z5 := Tryz.sizeOf5
  v5 := Tryz.zeroValue5
  infoByte := by kernel_rfl
  cellsByte := by kernel_rfl
  sizeByte := by kernel_rfl
  neB5 := by decide }
open Go.RowKit Go.Lib in
/-- **strings.Repeat: count ≥ 0, the result within one allocation: count copies of s.** (LAID: no walk: one application.) -/
theorem Tryz.strings_Repeat (s : ByteArray) (c : Nat) (w : World) (hc : c ≤ 9223372036854775807) (hlen : s.size * c ≤ 140737488355328) :
    Calls Tryz.prog 101 #[.string s, .int .i64 c] w fun e w' => e = .returned (.string ⟨(Lib.repeatL s.data.toList c).toArray⟩) ∧ Below w.heap.size w w' := Any.strings_Repeat Tryz.lays105 Tryz.Builder_Extra_105 s c w hc hlen
end Go.Proofs
namespace Go.Proofs.YtddihmpiaemadaaGreatDoor
set_option linter.unusedVariables false
set_option linter.unusedSimpArgs false
open Go.RowKit

theorem strN_zero (n : Nat) : strN (List.replicate n 0) = ⟨(Lib.repeatL [0] n).toArray⟩ := by
  apply ByteArray.ext
  apply Array.ext'
  rw [strN, strOfNums_data]
  induction n with
  | zero => rfl
  | succ n ih => simp only [List.replicate_succ, List.map_cons, Lib.repeatL] at ih ⊢; simpa using ih
theorem zeros_i (n : Nat) (w : World) (h : n ≤ 16777216) : Calls Tryz.prog 80 #[.int .i64 n] w fun e w' => e = .returned (.string (strN (List.replicate n 0))) ∧ Below w.heap.size w w' := by
  have HR : ∀ w, Calls Tryz.prog 101 #[.string { data := #[0] }, .int .i64 n] w fun e w' => e = .returned (.string (strN (List.replicate n 0))) ∧ Below w.heap.size w w' := fun w => by
    rw [strN_zero]
    exact Tryz.strings_Repeat { data := #[0] } n w (by omega) (by show 1 * n ≤ _; omega)
  go_enter Tryz.func80, Tryz.ntmps80
  go_wp2_with (go_at_call 101; refine (HR _).mono ?_; rintro e w1 ⟨rfl, hb1⟩)
  go_ret
  exact ⟨rfl, hb1⟩
end Go.Proofs.YtddihmpiaemadaaGreatDoor
namespace Go.Proofs.YtddihmpiaemadaaGreatDoor
set_option linter.unusedVariables false
set_option linter.unusedSimpArgs false
open Go.RowKit
def geoB (c h p s : Int) : Bool := inB c 1 8 && (inB h 1 2 && (inB p 1 8 && inB s 0 2))
set_option maxHeartbeats 1000000 in
theorem geo_i (c h p s : Int) (w : World) : Calls Tryz.prog 53 #[.int .i64 c, .int .i64 h, .int .i64 p, .int .i64 s] w fun e w' => e = .returned (.bool (geoB c h p s)) ∧ w = w' := by
  unfold geoB
  cases h1 : inB c 1 8
  · go_enter Tryz.func53, Tryz.ntmps53
    go_wp2_with (go_at_call 41; refine (within_i _ _ _ _).mono ?_; rintro e w1 ⟨rfl, rfl⟩)
    go_ret
    exact ⟨rfl, rfl⟩
  · cases h2 : inB h 1 2
    · go_enter Tryz.func53, Tryz.ntmps53
      go_wp2_with (go_at_call 41; refine (within_i _ _ _ _).mono ?_; rintro e w1 ⟨rfl, rfl⟩)
      go_ret
      exact ⟨rfl, rfl⟩
    · cases h3 : inB p 1 8
      · go_enter Tryz.func53, Tryz.ntmps53
        go_wp2_with (go_at_call 41; refine (within_i _ _ _ _).mono ?_; rintro e w1 ⟨rfl, rfl⟩)
        go_ret
        exact ⟨rfl, rfl⟩
      · cases h4 : inB s 0 2
        · go_enter Tryz.func53, Tryz.ntmps53
          go_wp2_with (go_at_call 41; refine (within_i _ _ _ _).mono ?_; rintro e w1 ⟨rfl, rfl⟩)
          go_ret
          exact ⟨rfl, rfl⟩
        · go_enter Tryz.func53, Tryz.ntmps53
          go_wp2_with (go_at_call 41; refine (within_i _ _ _ _).mono ?_; rintro e w1 ⟨rfl, rfl⟩)
          go_ret
          exact ⟨rfl, rfl⟩
set_option maxHeartbeats 1000000 in
theorem geo_s (c h p s : Int) (w : World) : Calls Tryz.prog 55 #[.int .i64 c, .int .i64 h, .int .i64 p, .int .i64 s] w fun e w' => e = .returned (.bool (geoB c h p s)) ∧ w = w' := by
  unfold geoB
  cases h1 : inB c 1 8
  · go_enter Tryz.func55, Tryz.ntmps55
    go_wp2_with (go_at_call 50; refine (in_s _ _ _ _).mono ?_; rintro e w1 ⟨rfl, rfl⟩)
    go_ret
    exact ⟨rfl, rfl⟩
  · cases h2 : inB h 1 2
    · go_enter Tryz.func55, Tryz.ntmps55
      go_wp2_with (go_at_call 50; refine (in_s _ _ _ _).mono ?_; rintro e w1 ⟨rfl, rfl⟩)
      go_ret
      exact ⟨rfl, rfl⟩
    · cases h3 : inB p 1 8
      · go_enter Tryz.func55, Tryz.ntmps55
        go_wp2_with (go_at_call 50; refine (in_s _ _ _ _).mono ?_; rintro e w1 ⟨rfl, rfl⟩)
        go_ret
        exact ⟨rfl, rfl⟩
      · cases h4 : inB s 0 2
        · go_enter Tryz.func55, Tryz.ntmps55
          go_wp2_with (go_at_call 50; refine (in_s _ _ _ _).mono ?_; rintro e w1 ⟨rfl, rfl⟩)
          go_ret
          exact ⟨rfl, rfl⟩
        · go_enter Tryz.func55, Tryz.ntmps55
          go_wp2_with (go_at_call 50; refine (in_s _ _ _ _).mono ?_; rintro e w1 ⟨rfl, rfl⟩)
          go_ret
          exact ⟨rfl, rfl⟩
/-- the number of bytes of a sector -/
def szN (k : Int) : Nat := 8 * 2 ^ k.toNat
theorem szN_le {k : Int} (h : 0 ≤ k ∧ k ≤ 2) : szN k = 8 ∨ szN k = 16 ∨ szN k = 32 := by
  rcases (by omega : k = 0 ∨ k = 1 ∨ k = 2) with rfl | rfl | rfl
  · exact .inl rfl
  · exact .inr (.inl rfl)
  · exact .inr (.inr rfl)
theorem bytes_i (k : Int) (w : World) (h : 0 ≤ k ∧ k ≤ 2) : Calls Tryz.prog 43 #[.int .i64 k] w fun e w' => e = .returned (.int .i64 (szN k : Nat)) ∧ w = w' := by
  rcases (by omega : k = 0 ∨ k = 1 ∨ k = 2) with rfl | rfl | rfl
  all_goals
    go_enter Tryz.func43, Tryz.ntmps43
    go_wp2
    go_ret
    exact ⟨rfl, rfl⟩
theorem bytes_s (k : Int) (w : World) (h : 0 ≤ k ∧ k ≤ 2) : Calls Tryz.prog 57 #[.int .i64 k] w fun e w' => e = .returned (.int .i64 (szN k : Nat)) ∧ w = w' := by
  rcases (by omega : k = 0 ∨ k = 1 ∨ k = 2) with rfl | rfl | rfl
  all_goals
    go_enter Tryz.func57, Tryz.ntmps57
    go_wp2
    go_ret
    exact ⟨rfl, rfl⟩
theorem zeros_s (n : Nat) (w : World) (h : n ≤ 16777216) : Calls Tryz.prog 79 #[.int .i64 n] w fun e w' => e = .returned (.string (strN (List.replicate n 0))) ∧ Below w.heap.size w w' := by
  obtain ⟨wa, hm1, hba, hb1, hz1⟩ := buf_made w n h
  have hst := hba.str (n := n) (c := n) (by simp)
  go_enter Tryz.func79, Tryz.ntmps79
  go_wp2
  go_ret
  exact ⟨rfl, hb1⟩
def secOk (s : Sec) (n : Nat) : Bool := (inB s.state 1 4 && decide (s.data.size = n)) && (s.state != 3 || (s.data.toList == (strN (List.replicate n 0)).toList))
end Go.Proofs.YtddihmpiaemadaaGreatDoor
namespace Go.Proofs.YtddihmpiaemadaaGreatDoor
set_option linter.unusedVariables false
set_option linter.unusedSimpArgs false
open Go.RowKit
theorem secOk_no1 {s : Sec} {n : Nat} (h : inB s.state 1 4 = false) : secOk s n = false := by unfold secOk; rw [h]; rfl
theorem secOk_no2 {s : Sec} {n : Nat} (h : ¬ s.data.size = n) : secOk s n = false := by unfold secOk; rw [decide_eq_false h, Bool.and_false, Bool.false_and]
theorem secOk_yes {s : Sec} {n : Nat} (h : inB s.state 1 4 = true) (h2 : s.data.size = n) (h3 : (s.state != 3) = true) : secOk s n = true := by unfold secOk; rw [h, decide_eq_true h2, h3]; rfl
theorem secOk_eq {s : Sec} {n : Nat} (h : inB s.state 1 4 = true) (h2 : s.data.size = n) (h3 : (s.state != 3) = false) : secOk s n = (s.data.toList == (strN (List.replicate n 0)).toList) := by unfold secOk; rw [h, decide_eq_true h2, h3]; rfl
set_option maxRecDepth 20000 in
set_option maxHeartbeats 2000000 in
theorem sec_i (s : Sec) (k : Int) (w : World) (hk : 0 ≤ k ∧ k ≤ 2) (hm : s.data.size ≤ maxLen) :
    Calls Tryz.prog 54 #[.agg #[.string s.data, .int .i64 s.state], .int .i64 k] w fun e w' => e = .returned (.bool (secOk s (szN k))) ∧ Below w.heap.size w w' := by
  have hz := szN_le hk
  unfold maxLen at hm
  have e0 : ∀ x : Wb (w.alloc (.cells #[.string s.data, .int .i64 s.state] 56)), x.1.cell? ⟨w.heap.size, 0, none⟩ = some (.string s.data) := fun x => Wb.cell (by simp) x
  have e1 : ∀ x : Wb (w.alloc (.cells #[.string s.data, .int .i64 s.state] 56)), x.1.cell? ⟨w.heap.size, 1, none⟩ = some (.int .i64 s.state) := fun x => Wb.cell (by simp) x
  have B0 : Below w.heap.size w (w.alloc (.cells #[.string s.data, .int .i64 s.state] 56)) := Below.alloc (Below.refl _ _) (Nat.le_refl _) _
  cases h1 : inB s.state 1 4
  · have HF := Lib.hid (secOk_no1 (n := szN k) h1)
    go_enter Tryz.func54, Tryz.ntmps54
    go_wp2_with (fail)
    refine wp_region_wb (by kernel_rfl) (by kernel_rfl) ?_; (repeat (go_big_quiet_step (first | (go_at_call 41; exact Wb.same (within_i _ _ _ _)) | (go_at_call 43; exact Wb.same (bytes_i k _ hk)) | (go_at_call 80; exact Wb.calls (zeros_i (szN k) _ (by omega)))))); refine wpQuiet_nil ?_
    rintro w1 ⟨⟨w1', hb1⟩, rfl⟩
    go_wp2
    go_ret
    exact ⟨ret_bool HF.out.symm, B0.trans (hb1.mono (by simp))⟩
  · by_cases h2 : s.data.size = szN k
    · have d1 : ((s.data.size : Int) != ((szN k : Nat) : Int)) = false := by simp [h2]
      cases h3 : (s.state != 3)
      · have HF := Lib.hid (secOk_eq h1 h2 h3)
        clear h2
        go_enter Tryz.func54, Tryz.ntmps54
        go_wp2_with (fail)
        refine wp_region_wb (by kernel_rfl) (by kernel_rfl) ?_; (repeat (go_big_quiet_step (first | (go_at_call 41; exact Wb.same (within_i _ _ _ _)) | (go_at_call 43; exact Wb.same (bytes_i k _ hk)) | (go_at_call 80; exact Wb.calls (zeros_i (szN k) _ (by omega)))))); refine wpQuiet_nil ?_
        rintro w1 ⟨⟨w1', hb1⟩, rfl⟩
        have f0 : ∀ x : Wb w1, x.1.cell? ⟨w.heap.size, 0, none⟩ = some (.string s.data) := fun x => Wb.cell (e0 ⟨w1, hb1⟩) x
        have f1 : ∀ x : Wb w1, x.1.cell? ⟨w.heap.size, 1, none⟩ = some (.int .i64 s.state) := fun x => Wb.cell (e1 ⟨w1, hb1⟩) x
        go_wp2_with (fail)
        refine wp_region_wb (by kernel_rfl) (by kernel_rfl) ?_; (repeat (go_big_quiet_step (first | (go_at_call 41; exact Wb.same (within_i _ _ _ _)) | (go_at_call 43; exact Wb.same (bytes_i k _ hk)) | (go_at_call 80; exact Wb.calls (zeros_i (szN k) _ (by omega)))))); refine wpQuiet_nil ?_
        rintro w2 ⟨⟨w2', hb2⟩, rfl⟩
        have z1 := hb1.size
        go_wp2
        go_ret
        exact ⟨ret_bool HF.out.symm, (B0.trans (hb1.mono (by simp))).trans (hb2.mono (by simp at z1; omega))⟩
      · have HF := Lib.hid (secOk_yes h1 h2 h3)
        clear h2
        go_enter Tryz.func54, Tryz.ntmps54
        go_wp2_with (fail)
        refine wp_region_wb (by kernel_rfl) (by kernel_rfl) ?_; (repeat (go_big_quiet_step (first | (go_at_call 41; exact Wb.same (within_i _ _ _ _)) | (go_at_call 43; exact Wb.same (bytes_i k _ hk)) | (go_at_call 80; exact Wb.calls (zeros_i (szN k) _ (by omega)))))); refine wpQuiet_nil ?_
        rintro w1 ⟨⟨w1', hb1⟩, rfl⟩
        have f0 : ∀ x : Wb w1, x.1.cell? ⟨w.heap.size, 0, none⟩ = some (.string s.data) := fun x => Wb.cell (e0 ⟨w1, hb1⟩) x
        have f1 : ∀ x : Wb w1, x.1.cell? ⟨w.heap.size, 1, none⟩ = some (.int .i64 s.state) := fun x => Wb.cell (e1 ⟨w1, hb1⟩) x
        go_wp2_with (fail)
        refine wp_region_wb (by kernel_rfl) (by kernel_rfl) ?_; (repeat (go_big_quiet_step (first | (go_at_call 41; exact Wb.same (within_i _ _ _ _)) | (go_at_call 43; exact Wb.same (bytes_i k _ hk)) | (go_at_call 80; exact Wb.calls (zeros_i (szN k) _ (by omega)))))); refine wpQuiet_nil ?_
        rintro w2 ⟨⟨w2', hb2⟩, rfl⟩
        have z1 := hb1.size
        go_wp2
        go_ret
        exact ⟨ret_bool HF.out.symm, (B0.trans (hb1.mono (by simp))).trans (hb2.mono (by simp at z1; omega))⟩
    · have d1 : ((s.data.size : Int) != ((szN k : Nat) : Int)) = true := by simp; omega
      have HF := Lib.hid (secOk_no2 h2)
      clear h2
      go_enter Tryz.func54, Tryz.ntmps54
      go_wp2_with (fail)
      refine wp_region_wb (by kernel_rfl) (by kernel_rfl) ?_; (repeat (go_big_quiet_step (first | (go_at_call 41; exact Wb.same (within_i _ _ _ _)) | (go_at_call 43; exact Wb.same (bytes_i k _ hk)) | (go_at_call 80; exact Wb.calls (zeros_i (szN k) _ (by omega)))))); refine wpQuiet_nil ?_
      rintro w1 ⟨⟨w1', hb1⟩, rfl⟩
      go_wp2
      go_ret
      exact ⟨ret_bool HF.out.symm, B0.trans (hb1.mono (by simp))⟩
set_option maxRecDepth 20000 in
set_option maxHeartbeats 2000000 in
theorem sec_s (s : Sec) (n : Nat) (w : World) (hn : n ≤ 64) (hm : s.data.size ≤ maxLen) :
    Calls Tryz.prog 56 #[.agg #[.string s.data, .int .i64 s.state], .int .i64 n] w fun e w' => e = .returned (.bool (secOk s n)) ∧ Below w.heap.size w w' := by
  unfold maxLen at hm
  have e0 : ∀ x : Wb (w.alloc (.cells #[.string s.data, .int .i64 s.state] 56)), x.1.cell? ⟨w.heap.size, 0, none⟩ = some (.string s.data) := fun x => Wb.cell (by simp) x
  have e1 : ∀ x : Wb (w.alloc (.cells #[.string s.data, .int .i64 s.state] 56)), x.1.cell? ⟨w.heap.size, 1, none⟩ = some (.int .i64 s.state) := fun x => Wb.cell (by simp) x
  have B0 : Below w.heap.size w (w.alloc (.cells #[.string s.data, .int .i64 s.state] 56)) := Below.alloc (Below.refl _ _) (Nat.le_refl _) _
  by_cases h2 : s.data.size = n
  · have d1 : ((s.data.size : Int) != (n : Int)) = false := by simp [h2]
    cases h1 : inB s.state 1 4
    · have HF := Lib.hid (secOk_no1 (n := n) h1)
      clear h2
      go_enter Tryz.func56, Tryz.ntmps56
      go_wp2_with (go_at_call 50; refine (in_s _ _ _ _).mono ?_; rintro e w1 ⟨rfl, rfl⟩)
      go_ret
      exact ⟨ret_bool HF.out.symm, B0⟩
    · cases h3 : (s.state != 3)
      · have HF := Lib.hid (secOk_eq h1 h2 h3)
        clear h2
        go_enter Tryz.func56, Tryz.ntmps56
        go_wp2_with (go_at_call 50; refine (in_s _ _ _ _).mono ?_; rintro e w1 ⟨rfl, rfl⟩)
        refine wp_region_wb (by kernel_rfl) (by kernel_rfl) ?_; (repeat (go_big_quiet_step (first | (go_at_call 50; exact Wb.same (in_s _ _ _ _)) | (go_at_call 79; exact Wb.calls (zeros_s n _ (by omega)))))); refine wpQuiet_nil ?_
        rintro w2 ⟨⟨w2', hb2⟩, rfl⟩
        go_wp2
        go_ret
        exact ⟨ret_bool HF.out.symm, B0.trans (hb2.mono (by simp))⟩
      · have HF := Lib.hid (secOk_yes h1 h2 h3)
        clear h2
        go_enter Tryz.func56, Tryz.ntmps56
        go_wp2_with (go_at_call 50; refine (in_s _ _ _ _).mono ?_; rintro e w1 ⟨rfl, rfl⟩)
        refine wp_region_wb (by kernel_rfl) (by kernel_rfl) ?_; (repeat (go_big_quiet_step (first | (go_at_call 50; exact Wb.same (in_s _ _ _ _)) | (go_at_call 79; exact Wb.calls (zeros_s n _ (by omega)))))); refine wpQuiet_nil ?_
        rintro w2 ⟨⟨w2', hb2⟩, rfl⟩
        go_wp2
        go_ret
        exact ⟨ret_bool HF.out.symm, B0.trans (hb2.mono (by simp))⟩
  · have d1 : ((s.data.size : Int) != (n : Int)) = true := by simp; omega
    have HF := Lib.hid (secOk_no2 h2)
    clear h2
    go_enter Tryz.func56, Tryz.ntmps56
    go_wp2_with (go_at_call 50; refine (in_s _ _ _ _).mono ?_; rintro e w1 ⟨rfl, rfl⟩)
    go_ret
    exact ⟨ret_bool HF.out.symm, B0⟩
end Go.Proofs.YtddihmpiaemadaaGreatDoor
namespace Go.Proofs.YtddihmpiaemadaaGreatDoor
set_option linter.unusedVariables false
set_option linter.unusedSimpArgs false
open Go.RowKit
def discOk (d : Dsc) : Bool := geoB d.cyl d.heads d.per d.size && (((d.secs.length : Int) == d.cyl * d.heads * d.per) && d.secs.all fun s => secOk s (szN d.size))
theorem dk_no1 {d : Dsc} (h : geoB d.cyl d.heads d.per d.size = false) : discOk d = false := by unfold discOk; rw [h, Bool.false_and]
theorem dk_no2 {d : Dsc} (h2 : ((d.secs.length : Int) == d.cyl * d.heads * d.per) = false) : discOk d = false := by unfold discOk; rw [h2, Bool.false_and, Bool.and_false]
theorem dk_yes {d : Dsc} (h : geoB d.cyl d.heads d.per d.size = true) (h2 : ((d.secs.length : Int) == d.cyl * d.heads * d.per) = true) : discOk d = d.secs.all fun s => secOk s (szN d.size) := by unfold discOk; rw [h, h2]; rfl
theorem geo_parts {c h p s : Int} (hg : geoB c h p s = true) : (1 ≤ c ∧ c ≤ 8) ∧ (1 ≤ h ∧ h ≤ 2) ∧ (1 ≤ p ∧ p ≤ 8) ∧ (0 ≤ s ∧ s ≤ 2) := by
  unfold geoB at hg
  simp only [Bool.and_eq_true] at hg
  exact ⟨inB_yes hg.1, inB_yes hg.2.1, inB_yes hg.2.2.1, inB_yes hg.2.2.2⟩
theorem prod_bd {c h p : Int} (h1 : 1 ≤ c ∧ c ≤ 8) (h2 : 1 ≤ h ∧ h ≤ 2) (h3 : 1 ≤ p ∧ p ≤ 8) : (1 ≤ c * h ∧ c * h ≤ 16) ∧ (1 ≤ c * h * p ∧ c * h * p ≤ 128) := by
  rcases (by omega : h = 1 ∨ h = 2) with rfl | rfl
  · have : (c = 1 ∨ c = 2 ∨ c = 3 ∨ c = 4 ∨ c = 5 ∨ c = 6 ∨ c = 7 ∨ c = 8) := by omega
    rcases this with rfl | rfl | rfl | rfl | rfl | rfl | rfl | rfl <;> omega
  · have : (c = 1 ∨ c = 2 ∨ c = 3 ∨ c = 4 ∨ c = 5 ∨ c = 6 ∨ c = 7 ∨ c = 8) := by omega
    rcases this with rfl | rfl | rfl | rfl | rfl | rfl | rfl | rfl <;> omega
theorem da_yes {l : List Sec} {k n : Nat} {s : Sec} {X : Bool} (he : l[k]? = some s) (H : Hid (X = (l.drop k).all fun s => secOk s n)) (h : secOk s n = true) : Hid (X = (l.drop (k + 1)).all fun s => secOk s n) := by
  obtain ⟨hk, rfl⟩ := List.getElem?_eq_some_iff.1 he
  exact Lib.hid (by rw [H.out, List.drop_eq_getElem_cons hk, List.all_cons, h, Bool.true_and])
theorem da_no {l : List Sec} {k n : Nat} {s : Sec} {X : Bool} (he : l[k]? = some s) (H : Hid (X = (l.drop k).all fun s => secOk s n)) (h : secOk s n = false) : X = false := by
  obtain ⟨hk, rfl⟩ := List.getElem?_eq_some_iff.1 he
  rw [H.out, List.drop_eq_getElem_cons hk, List.all_cons, h, Bool.false_and]
theorem da_end {l : List Sec} {k n : Nat} {X : Bool} (hk : l.length ≤ k) (H : Hid (X = (l.drop k).all fun s => secOk s n)) : X = true := by
  rw [H.out, List.drop_of_length_le hk]; rfl
theorem size_sec (A : Option Addr) (n c : Nat) (w : World) (hn : n ≤ 1048576) : Calls Tryz.prog 45 #[.slice A n c] w fun e w' => e = .returned (.int .i64 n) ∧ w = w' := by
  go_enter Tryz.func45, Tryz.ntmps45
  go_wp2
  go_ret
  exact ⟨rfl, rfl⟩
set_option maxRecDepth 20000 in
set_option maxHeartbeats 4000000 in
theorem disc_i (B : Nat) (d : Dsc) (bv : Value) (w : World) (h : SecOwn B w bv d.secs) (hn : d.secs.length ≤ 1048576) (hm : ∀ s ∈ d.secs, s.data.size ≤ maxLen) :
    Calls Tryz.prog 20 #[dscV d bv] w fun e w' => e = .returned (.bool (discOk d)) ∧ Below w.heap.size w w' := by
  obtain ⟨A, c, rfl, hA⟩ := OwnL.shape h
  have hc : ∀ (g : Nat), A = some ⟨g, 0, none⟩ → ∀ (k : Nat) (s : Sec), d.secs[k]? = some s → w.cell? ⟨g, k * 2, none⟩ = some (.string s.data) ∧ w.cell? ⟨g, k * 2 + 1, none⟩ = some (.int .i64 s.state) := fun g hg k s hk => by
    subst hg
    exact ⟨OwnL.cell Sec.len h hk (j := 0) rfl, OwnL.cell Sec.len h hk (j := 1) rfl⟩
  have HC := Lib.hid hc
  clear hc h
  have e0 : ∀ x : Wb (w.alloc (.cells #[.int .i64 d.cyl, .int .i64 d.heads, .int .i64 d.per, .int .i64 d.size, .slice A d.secs.length c] 32)), x.1.cell? ⟨w.heap.size, 0, none⟩ = some (.int .i64 d.cyl) := fun x => Wb.cell (by simp) x
  have e1 : ∀ x : Wb (w.alloc (.cells #[.int .i64 d.cyl, .int .i64 d.heads, .int .i64 d.per, .int .i64 d.size, .slice A d.secs.length c] 32)), x.1.cell? ⟨w.heap.size, 1, none⟩ = some (.int .i64 d.heads) := fun x => Wb.cell (by simp) x
  have e2 : ∀ x : Wb (w.alloc (.cells #[.int .i64 d.cyl, .int .i64 d.heads, .int .i64 d.per, .int .i64 d.size, .slice A d.secs.length c] 32)), x.1.cell? ⟨w.heap.size, 2, none⟩ = some (.int .i64 d.per) := fun x => Wb.cell (by simp) x
  have e3 : ∀ x : Wb (w.alloc (.cells #[.int .i64 d.cyl, .int .i64 d.heads, .int .i64 d.per, .int .i64 d.size, .slice A d.secs.length c] 32)), x.1.cell? ⟨w.heap.size, 3, none⟩ = some (.int .i64 d.size) := fun x => Wb.cell (by simp) x
  have e4 : ∀ x : Wb (w.alloc (.cells #[.int .i64 d.cyl, .int .i64 d.heads, .int .i64 d.per, .int .i64 d.size, .slice A d.secs.length c] 32)), x.1.cell? ⟨w.heap.size, 4, none⟩ = some (.slice A d.secs.length c) := fun x => Wb.cell (by simp) x
  have B0 : Below w.heap.size w (w.alloc (.cells #[.int .i64 d.cyl, .int .i64 d.heads, .int .i64 d.per, .int .i64 d.size, .slice A d.secs.length c] 32)) := Below.alloc (Below.refl _ _) (Nat.le_refl _) _
  cases h1 : geoB d.cyl d.heads d.per d.size
  · have HF := Lib.hid (dk_no1 h1)
    go_enter Tryz.func20, Tryz.ntmps20
    go_wp2_with (fail)
    refine wp_region_wb (by kernel_rfl) (by kernel_rfl) ?_; (repeat (go_big_quiet_step (first | (go_at_call 53; exact Wb.same (geo_i _ _ _ _ _)) | (go_at_call 45; exact Wb.same (size_sec _ _ _ _ (by omega)))))); refine wpQuiet_nil ?_; rintro w1 ⟨⟨w1', hb1⟩, rfl⟩
    go_wp2
    go_ret
    exact ⟨ret_bool HF.out.symm, B0.trans (hb1.mono (by simp))⟩
  · obtain ⟨g1, g2, g3, g4⟩ := geo_parts h1
    obtain ⟨m1, m2⟩ := prod_bd g1 g2 g3
    cases h2 : ((d.secs.length : Int) == d.cyl * d.heads * d.per)
    · have HF := Lib.hid (dk_no2 h2)
      have h2' : ((d.secs.length : Int) != d.cyl * d.heads * d.per) = true := by unfold bne; rw [h2]; rfl
      go_enter Tryz.func20, Tryz.ntmps20
      go_wp2_with (fail)
      refine wp_region_wb (by kernel_rfl) (by kernel_rfl) ?_; (repeat (go_big_quiet_step (first | (go_at_call 53; exact Wb.same (geo_i _ _ _ _ _)) | (go_at_call 45; exact Wb.same (size_sec _ _ _ _ (by omega)))))); refine wpQuiet_nil ?_; rintro w1 ⟨⟨w1', hb1⟩, rfl⟩
      go_wp2
      go_ret
      exact ⟨ret_bool HF.out.symm, B0.trans (hb1.mono (by simp))⟩
    · have HF := Lib.hid (dk_yes h1 h2)
      have h2' : ((d.secs.length : Int) != d.cyl * d.heads * d.per) = false := by unfold bne; rw [h2]; rfl
      go_enter Tryz.func20, Tryz.ntmps20
      go_wp2_with (fail)
      refine wp_region_wb (by kernel_rfl) (by kernel_rfl) ?_; (repeat (go_big_quiet_step (first | (go_at_call 53; exact Wb.same (geo_i _ _ _ _ _)) | (go_at_call 45; exact Wb.same (size_sec _ _ _ _ (by omega)))))); refine wpQuiet_nil ?_; rintro w1 ⟨⟨w1', hb1⟩, rfl⟩
      have p4 : w1.cell? ⟨w.heap.size, 4, none⟩ = some (.slice A d.secs.length c) := e4 ⟨w1, hb1⟩
      have p3 : w1.cell? ⟨w.heap.size, 3, none⟩ = some (.int .i64 d.size) := e3 ⟨w1, hb1⟩
      have z1 : w.heap.size + 1 ≤ w1.heap.size := by have := hb1.size; simpa using this
      have B1 : Below w.heap.size w w1 := B0.trans (hb1.mono (by simp))
      clear e0 e1 e2 e3 e4 h2 h2' h1
      go_wp2
      go_loopw [32] (fun i wr => ∃ k : Nat, k ≤ d.secs.length ∧ i = .int .i64 k ∧ Below w1.heap.size w1 wr ∧ Hid (discOk d = (d.secs.drop k).all fun s => secOk s (szN d.size))) (fun i _ => d.secs.length - (intOf i).toNat)
      case atStart => exact ⟨0, by omega, rfl, Below.refl _ _, HF⟩
      case round =>
        obtain ⟨k, hk, rfl, hb, HK⟩ := hrel
        have zr := hb.size
        have BR : Below w.heap.size w wr := B1.trans (hb.mono (by omega))
        by_cases hlt : k < d.secs.length
        · obtain ⟨s, hs⟩ : ∃ s, d.secs[k]? = some s := ⟨d.secs[k], List.getElem?_eq_getElem hlt⟩
          obtain ⟨g, rfl, _, hg⟩ := hA.resolve_left (by intro h0; rw [h0] at hlt; simp at hlt)
          obtain ⟨c0, c1⟩ := HC.out g rfl k s hs
          have q0 := (BR.cell (p := ⟨g, _, none⟩) hg).trans c0
          have q1 := (BR.cell (p := ⟨g, _, none⟩) hg).trans c1
          have q3 := (hb.cell (p := ⟨w.heap.size, 3, none⟩) (by show w.heap.size < _; omega)).trans p3
          have q3' : ∀ o : Obj, (wr.alloc o).cell? ⟨w.heap.size, 3, none⟩ = some (.int .i64 d.size) := fun o => (World.cell?_alloc_old _ _ _ (by show w.heap.size ≠ _; omega)).trans q3
          have hms := hm s (List.mem_of_getElem? hs)
          have HS := Lib.hid hs
          clear c0 c1 hs
          cases h5 : secOk s (szN d.size)
          · have HN := da_no HS.out HK h5
            go_wp2_with (go_at_call 54; refine (sec_i s d.size _ g4 hms).mono ?_; rw [h5]; rintro e w2 ⟨rfl, hb2⟩)
            go_ret
            exact ⟨ret_bool HN.symm, (by repeat (first | exact Below.refl _ _ | refine Below.alloc ?_ (by first | omega | (simp; done) | (simp; omega)) _ | apply Below.drew | apply below_drewN | refine Below.setCell ?_ (by first | omega | (simp; done) | (simp; omega)) _ | refine Below.trans ?_ (Below.mono (by assumption) (by first | omega | (simp; done) | (simp; omega)))))⟩
          · have HN := da_yes HS.out HK h5
            go_wp2_with (go_at_call 54; refine (sec_i s d.size _ g4 hms).mono ?_; rw [h5]; rintro e w2 ⟨rfl, hb2⟩)
            go_roundw
            case rel => exact ⟨k + 1, by omega, by go_num, (Below.alloc hb zr _).trans (hb2.mono (by simp; omega)), HN⟩
            case measure => simp [intOf]; omega
        · go_wp2
          go_ret
          exact ⟨ret_bool (da_end (by omega) HK).symm, BR⟩
end Go.Proofs.YtddihmpiaemadaaGreatDoor
namespace Go.Proofs.YtddihmpiaemadaaGreatDoor
set_option linter.unusedVariables false
set_option linter.unusedSimpArgs false
open Go.RowKit
set_option maxRecDepth 20000 in
set_option maxHeartbeats 4000000 in
theorem discp_s (d : Dsc) (gb c : Nat) (A : Option Addr) (w : World) (p0 : w.cell? ⟨gb, 0, none⟩ = some (.int .i64 d.cyl)) (p1 : w.cell? ⟨gb, 1, none⟩ = some (.int .i64 d.heads)) (p2 : w.cell? ⟨gb, 2, none⟩ = some (.int .i64 d.per)) (p3 : w.cell? ⟨gb, 3, none⟩ = some (.int .i64 d.size)) (p4 : w.cell? ⟨gb, 4, none⟩ = some (.slice A d.secs.length c))
    (hA : d.secs = [] ∨ ∃ g, A = some ⟨g, 0, none⟩ ∧ g < w.heap.size ∧ ∀ (k : Nat) (s : Sec), d.secs[k]? = some s → w.cell? ⟨g, k * 2, none⟩ = some (.string s.data) ∧ w.cell? ⟨g, k * 2 + 1, none⟩ = some (.int .i64 s.state))
    (hn : d.secs.length ≤ 1048576) (hm : ∀ s ∈ d.secs, s.data.size ≤ maxLen) :
    Calls Tryz.prog 23 #[.pointer (some ⟨gb, 0, none⟩)] w fun e w' => e = .returned (.bool (discOk d)) ∧ Below w.heap.size w w' := by
  have hgb := World.block_lt_of_cell? w _ p0
  have e0 : ∀ x : Wb w, x.1.cell? ⟨gb, 0, none⟩ = some (.int .i64 d.cyl) := fun x => Wb.cell p0 x
  have e1 : ∀ x : Wb w, x.1.cell? ⟨gb, 1, none⟩ = some (.int .i64 d.heads) := fun x => Wb.cell p1 x
  have e2 : ∀ x : Wb w, x.1.cell? ⟨gb, 2, none⟩ = some (.int .i64 d.per) := fun x => Wb.cell p2 x
  have e3 : ∀ x : Wb w, x.1.cell? ⟨gb, 3, none⟩ = some (.int .i64 d.size) := fun x => Wb.cell p3 x
  have e4 : ∀ x : Wb w, x.1.cell? ⟨gb, 4, none⟩ = some (.slice A d.secs.length c) := fun x => Wb.cell p4 x
  cases h1 : geoB d.cyl d.heads d.per d.size
  · have HF := Lib.hid (dk_no1 h1)
    go_enter Tryz.func23, Tryz.ntmps23
    go_wp2_with (fail)
    refine wp_region_wb (by kernel_rfl) (by kernel_rfl) ?_; (repeat (go_big_quiet_step (first | (go_at_call 55; exact Wb.same (geo_s _ _ _ _ _))))); refine wpQuiet_nil ?_; rintro w1 ⟨⟨w1', hb1⟩, rfl⟩
    go_wp2
    go_ret
    exact ⟨ret_bool HF.out.symm, hb1⟩
  · obtain ⟨g1, g2, g3, g4⟩ := geo_parts h1
    obtain ⟨m1, m2⟩ := prod_bd g1 g2 g3
    cases h2 : ((d.secs.length : Int) == d.cyl * d.heads * d.per)
    · have HF := Lib.hid (dk_no2 h2)
      have h2' : ((d.secs.length : Int) != d.cyl * d.heads * d.per) = true := by unfold bne; rw [h2]; rfl
      go_enter Tryz.func23, Tryz.ntmps23
      go_wp2_with (fail)
      refine wp_region_wb (by kernel_rfl) (by kernel_rfl) ?_; (repeat (go_big_quiet_step (first | (go_at_call 55; exact Wb.same (geo_s _ _ _ _ _))))); refine wpQuiet_nil ?_; rintro w1 ⟨⟨w1', hb1⟩, rfl⟩
      go_wp2
      go_ret
      exact ⟨ret_bool HF.out.symm, hb1⟩
    · have HF := Lib.hid (dk_yes h1 h2)
      have h2' : ((d.secs.length : Int) != d.cyl * d.heads * d.per) = false := by unfold bne; rw [h2]; rfl
      go_enter Tryz.func23, Tryz.ntmps23
      go_wp2_with (fail)
      refine wp_region_wb (by kernel_rfl) (by kernel_rfl) ?_; (repeat (go_big_quiet_step (first | (go_at_call 55; exact Wb.same (geo_s _ _ _ _ _))))); refine wpQuiet_nil ?_; rintro w1 ⟨⟨w1', hb1⟩, rfl⟩
      have z1 := hb1.size
      clear e0 e1 e2 e3 e4 h2 h2' h1
      go_wp2
      go_loopw [3] (fun i wr => ∃ k : Nat, k ≤ d.secs.length ∧ i = .int .i64 k ∧ Below w.heap.size w wr ∧ Hid (discOk d = (d.secs.drop k).all fun s => secOk s (szN d.size))) (fun i _ => d.secs.length - (intOf i).toNat)
      case atStart => exact ⟨0, by omega, rfl, hb1, HF⟩
      case round =>
        obtain ⟨k, hk, rfl, hb, HK⟩ := hrel
        have zr := hb.size
        have r4 := (hb.cell (p := ⟨gb, 4, none⟩) hgb).trans p4
        by_cases hlt : k < d.secs.length
        · obtain ⟨s, hs⟩ : ∃ s, d.secs[k]? = some s := ⟨d.secs[k], List.getElem?_eq_getElem hlt⟩
          obtain ⟨g, rfl, hg, hc⟩ := hA.resolve_left (by intro h0; rw [h0] at hlt; simp at hlt)
          obtain ⟨c0, c1⟩ := hc k s hs
          have f3 : ∀ x : Wb wr, x.1.cell? ⟨gb, 3, none⟩ = some (.int .i64 d.size) := fun x => Wb.cell ((hb.cell (p := ⟨gb, 3, none⟩) hgb).trans p3) x
          have f4 : ∀ x : Wb wr, x.1.cell? ⟨gb, 4, none⟩ = some (.slice (some ⟨g, 0, none⟩) d.secs.length c) := fun x => Wb.cell r4 x
          have q0 : ∀ x : Wb wr, x.1.cell? ⟨g, k * 2, none⟩ = some (.string s.data) := fun x => Wb.cell ((hb.cell (p := ⟨g, _, none⟩) hg).trans c0) x
          have q1 : ∀ x : Wb wr, x.1.cell? ⟨g, k * 2 + 1, none⟩ = some (.int .i64 s.state) := fun x => Wb.cell ((hb.cell (p := ⟨g, _, none⟩) hg).trans c1) x
          have hz := szN_le g4
          have hms := hm s (List.mem_of_getElem? hs)
          have hsec := fun W => sec_s s (szN d.size) W (by omega) hms
          have HS := Lib.hid hs
          clear c0 c1 hs hc hA
          cases h5 : secOk s (szN d.size)
          · have HN := da_no HS.out HK h5
            rw [h5] at hsec
            go_wp2_with (fail)
            refine wp_region_wb (by kernel_rfl) (by kernel_rfl) ?_; (repeat (go_big_quiet_step (first | (go_at_call 57; exact Wb.same (bytes_s d.size _ g4)) | (go_at_call 56; exact Wb.calls (hsec _))))); refine wpQuiet_nil ?_; rintro w2 ⟨⟨w2', hb2⟩, rfl⟩
            go_wp2
            go_ret
            exact ⟨ret_bool HN.symm, hb.trans (hb2.mono zr)⟩
          · have HN := da_yes HS.out HK h5
            rw [h5] at hsec
            go_wp2_with (fail)
            refine wp_region_wb (by kernel_rfl) (by kernel_rfl) ?_; (repeat (go_big_quiet_step (first | (go_at_call 57; exact Wb.same (bytes_s d.size _ g4)) | (go_at_call 56; exact Wb.calls (hsec _))))); refine wpQuiet_nil ?_; rintro w2 ⟨⟨w2', hb2⟩, rfl⟩
            go_wp2
            go_roundw
            case rel => exact ⟨k + 1, by omega, by go_num, hb.trans (hb2.mono zr), HN⟩
            case measure => simp [intOf]; omega
        · go_wp2
          go_ret
          exact ⟨ret_bool (da_end (by omega) HK).symm, hb⟩
set_option maxHeartbeats 1000000 in
theorem disc_s (B : Nat) (d : Dsc) (bv : Value) (w : World) (h : SecOwn B w bv d.secs) (hn : d.secs.length ≤ 1048576) (hm : ∀ s ∈ d.secs, s.data.size ≤ maxLen) :
    Calls Tryz.prog 10 #[dscV d bv] w fun e w' => e = .returned (.bool (discOk d)) ∧ Below w.heap.size w w' := by
  obtain ⟨A, c, rfl, hA⟩ := OwnL.shape h
  have HP := discp_s d w.heap.size c A (w.alloc (.cells #[.int .i64 d.cyl, .int .i64 d.heads, .int .i64 d.per, .int .i64 d.size, .slice A d.secs.length c] 32)) (by simp) (by simp) (by simp) (by simp) (by simp) (by
    by_cases hl0 : d.secs = []
    · exact .inl hl0
    · obtain ⟨g, rfl, _, hg⟩ := hA.resolve_left hl0
      exact .inr ⟨g, rfl, by simp; omega, fun k s hs => ⟨(World.cell?_alloc_old _ _ _ (Nat.ne_of_lt hg)).trans (OwnL.cell Sec.len h hs (j := 0) rfl), (World.cell?_alloc_old _ _ _ (Nat.ne_of_lt hg)).trans (OwnL.cell Sec.len h hs (j := 1) rfl)⟩⟩) hn hm
  clear h hA
  go_enter Tryz.func10, Tryz.ntmps10
  go_wp2_with (go_at_call 23; refine HP.mono ?_; rintro e w1 ⟨rfl, hb1⟩)
  go_ret
  exact ⟨rfl, (Below.alloc (Below.refl _ _) (Nat.le_refl _) _).trans (hb1.mono (by simp))⟩
end Go.Proofs.YtddihmpiaemadaaGreatDoor
