/- Geometries and sectors that are valid, impl and spec: the walks. -/
import Derived.Test.YtjkfkjbakokjeaaHDisc4
import Derived.Test.YtjkfkjbakokjeaaZeros
namespace Go.Proofs.Ytjkfkjbakokjeaa
set_option linter.unusedVariables false
open Go.RowKit
def geoB (c h p s : Int) : Bool := inB c 1 8 && (inB h 1 2 && (inB p 1 8 && inB s 0 2))
set_option maxHeartbeats 1000000 in
theorem geo_i (c h p s : Int) (w : World) : Calls Try.prog 63 #[.int .i64 c, .int .i64 h, .int .i64 p, .int .i64 s] w fun e w' => e = .returned (.bool (geoB c h p s)) ∧ w = w' := by
  unfold geoB
  cases h1 : inB c 1 8
  · go_enter Try.func63, Try.ntmps63
    go_wp2_with (go_at_call 32; refine (within_i _ _ _ _).mono ?_; rintro e w1 ⟨rfl, rfl⟩)
    go_ret
    exact ⟨rfl, rfl⟩
  · cases h2 : inB h 1 2
    · go_enter Try.func63, Try.ntmps63
      go_wp2_with (go_at_call 32; refine (within_i _ _ _ _).mono ?_; rintro e w1 ⟨rfl, rfl⟩)
      go_ret
      exact ⟨rfl, rfl⟩
    · cases h3 : inB p 1 8
      · go_enter Try.func63, Try.ntmps63
        go_wp2_with (go_at_call 32; refine (within_i _ _ _ _).mono ?_; rintro e w1 ⟨rfl, rfl⟩)
        go_ret
        exact ⟨rfl, rfl⟩
      · cases h4 : inB s 0 2
        · go_enter Try.func63, Try.ntmps63
          go_wp2_with (go_at_call 32; refine (within_i _ _ _ _).mono ?_; rintro e w1 ⟨rfl, rfl⟩)
          go_ret
          exact ⟨rfl, rfl⟩
        · go_enter Try.func63, Try.ntmps63
          go_wp2_with (go_at_call 32; refine (within_i _ _ _ _).mono ?_; rintro e w1 ⟨rfl, rfl⟩)
          go_ret
          exact ⟨rfl, rfl⟩
set_option maxHeartbeats 1000000 in
theorem geo_s (c h p s : Int) (w : World) : Calls Try.prog 59 #[.int .i64 c, .int .i64 h, .int .i64 p, .int .i64 s] w fun e w' => e = .returned (.bool (geoB c h p s)) ∧ w = w' := by
  unfold geoB
  cases h1 : inB c 1 8
  · go_enter Try.func59, Try.ntmps59
    go_wp2_with (go_at_call 55; refine (in_s _ _ _ _).mono ?_; rintro e w1 ⟨rfl, rfl⟩)
    go_ret
    exact ⟨rfl, rfl⟩
  · cases h2 : inB h 1 2
    · go_enter Try.func59, Try.ntmps59
      go_wp2_with (go_at_call 55; refine (in_s _ _ _ _).mono ?_; rintro e w1 ⟨rfl, rfl⟩)
      go_ret
      exact ⟨rfl, rfl⟩
    · cases h3 : inB p 1 8
      · go_enter Try.func59, Try.ntmps59
        go_wp2_with (go_at_call 55; refine (in_s _ _ _ _).mono ?_; rintro e w1 ⟨rfl, rfl⟩)
        go_ret
        exact ⟨rfl, rfl⟩
      · cases h4 : inB s 0 2
        · go_enter Try.func59, Try.ntmps59
          go_wp2_with (go_at_call 55; refine (in_s _ _ _ _).mono ?_; rintro e w1 ⟨rfl, rfl⟩)
          go_ret
          exact ⟨rfl, rfl⟩
        · go_enter Try.func59, Try.ntmps59
          go_wp2_with (go_at_call 55; refine (in_s _ _ _ _).mono ?_; rintro e w1 ⟨rfl, rfl⟩)
          go_ret
          exact ⟨rfl, rfl⟩
/-- the number of bytes of a sector -/
def szN (k : Int) : Nat := 8 * 2 ^ k.toNat
theorem szN_le {k : Int} (h : 0 ≤ k ∧ k ≤ 2) : szN k = 8 ∨ szN k = 16 ∨ szN k = 32 := by
  rcases (by omega : k = 0 ∨ k = 1 ∨ k = 2) with rfl | rfl | rfl
  · exact .inl rfl
  · exact .inr (.inl rfl)
  · exact .inr (.inr rfl)
theorem bytes_i (k : Int) (w : World) (h : 0 ≤ k ∧ k ≤ 2) : Calls Try.prog 52 #[.int .i64 k] w fun e w' => e = .returned (.int .i64 (szN k : Nat)) ∧ w = w' := by
  rcases (by omega : k = 0 ∨ k = 1 ∨ k = 2) with rfl | rfl | rfl
  all_goals
    go_enter Try.func52, Try.ntmps52
    go_wp2
    go_ret
    exact ⟨rfl, rfl⟩
theorem bytes_s (k : Int) (w : World) (h : 0 ≤ k ∧ k ≤ 2) : Calls Try.prog 61 #[.int .i64 k] w fun e w' => e = .returned (.int .i64 (szN k : Nat)) ∧ w = w' := by
  rcases (by omega : k = 0 ∨ k = 1 ∨ k = 2) with rfl | rfl | rfl
  all_goals
    go_enter Try.func61, Try.ntmps61
    go_wp2
    go_ret
    exact ⟨rfl, rfl⟩
theorem zeros_s (n : Nat) (w : World) (h : n ≤ 16777216) : Calls Try.prog 72 #[.int .i64 n] w fun e w' => e = .returned (.string (strN (List.replicate n 0))) ∧ Below w.heap.size w w' := by
  obtain ⟨wa, hm1, hba, hb1, hz1⟩ := buf_made w n h
  have hst := hba.str (n := n) (c := n) (by simp)
  go_enter Try.func72, Try.ntmps72
  go_wp2
  go_ret
  exact ⟨rfl, hb1⟩
def secOk (s : Sec) (n : Nat) : Bool := (inB s.state 1 4 && decide (s.data.size = n)) && (s.state != 3 || (s.data.toList == (strN (List.replicate n 0)).toList))
end Go.Proofs.Ytjkfkjbakokjeaa
