/- a2Byte as a number that the bytes alone determine, a2Long: the walks; slices built of one number. -/
import Derived.Test.YthchdbjgjnpooaaDoorDrawB
import Derived.Test.YthchdbjgjnpooaaDoorHInt64
namespace Go.Proofs.YthchdbjgjnpooaaDoor
set_option linter.unusedVariables false
set_option linter.unusedSimpArgs false
open Go.RowKit
theorem Int64L.built1 (w : World) (B : Nat) (x : Int) (hB : B ≤ w.heap.size) : Int64L B (w.alloc (.cells #[.int .i64 x] 2)) (.slice (some ⟨w.heap.size, 0, none⟩) 1 1) [x] := by
  refine ⟨by simp [flat, icell], .inr ⟨w.heap.size, 1, #[.int .i64 x], rfl, hB, heap_alloc_new w _, ?_⟩⟩
  simp [flat, icell, maxLen]
set_option maxHeartbeats 1000000 in
theorem a2byte' (A : Option Addr) (n c at0 m : Nat) (w : World) (h : BytesIn w A n) (hn : n ≤ 1048576) (hat : at0 ≤ 1000) (hm : m ≤ 1048576) :
    ∃ r : Nat, (r = 0 ∨ r < m) ∧ ∀ W : World, W.heap = w.heap → Calls Tryd.prog 8 #[.slice A n c, .int .i64 at0, .int .i64 m] W fun e w' => e = .returned (.int .i64 (r : Int)) ∧ w' = W := by
  by_cases h1 : at0 < n
  · obtain ⟨b, o, rfl, hb, hc⟩ := h.resolve_left (by omega)
    by_cases hm1 : 1 ≤ m
    · obtain ⟨x, hx, px⟩ := hc at0 h1
      by_cases h2 : at0 + 1 < n
      · obtain ⟨y, hy, py⟩ := hc (at0 + 1) h2
        clear hc h
        refine ⟨(256 * x + y) % m, .inr (Nat.mod_lt _ (by omega)), fun W hW => ?_⟩
        have qx := (World.cell?_of_block (w := w) (w' := W) (a := ⟨b, o + at0, none⟩) (by rw [hW])).trans px
        have qy := (World.cell?_of_block (w := w) (w' := W) (a := ⟨b, o + (at0 + 1), none⟩) (by rw [hW])).trans py
        clear px py hW
        go_enter Tryd.func8, Tryd.ntmps8
        go_wp2
        go_ret
        refine ⟨ret_int ?_, rfl⟩
        first | rfl | (simp; done) | (push_cast; rfl) | omega
      · clear hc h
        refine ⟨x % m, .inr (Nat.mod_lt _ (by omega)), fun W hW => ?_⟩
        have qx := (World.cell?_of_block (w := w) (w' := W) (a := ⟨b, o + at0, none⟩) (by rw [hW])).trans px
        clear px hW
        go_enter Tryd.func8, Tryd.ntmps8
        go_wp2
        go_ret
        refine ⟨ret_int ?_, rfl⟩
        first | rfl | (simp; done) | (push_cast; rfl) | omega
    · clear hc h
      refine ⟨0, .inl rfl, fun W hW => ?_⟩
      clear hW
      go_enter Tryd.func8, Tryd.ntmps8
      go_wp2
      go_ret
      exact ⟨rfl, rfl⟩
  · clear h
    refine ⟨0, .inl rfl, fun W hW => ?_⟩
    clear hW
    go_enter Tryd.func8, Tryd.ntmps8
    go_wp2
    go_ret
    exact ⟨rfl, rfl⟩
theorem a2long (A A2 : Option Addr) (n c n2 c2 : Nat) (w : World) (hm : n ≤ maxLen) (hm2 : n2 ≤ maxLen) :
    Calls Tryd.prog 5 #[.slice A n c, .slice A2 n2 c2] w fun e w' => e = .returned (.bool (decide (3000 < n) || decide (3000 < n2))) ∧ w = w' := by
  unfold maxLen at hm hm2
  by_cases h1 : 3000 < n
  · have d1 : decide ((3000 : Int) < (n : Int)) = true := by simp; omega
    rw [decide_eq_true h1, Bool.true_or]
    go_enter Tryd.func5, Tryd.ntmps5
    go_wp2
    go_ret
    exact ⟨rfl, rfl⟩
  · have d1 : decide ((3000 : Int) < (n : Int)) = false := by simp; omega
    rw [decide_eq_false h1, Bool.false_or]
    cases h2 : decide (3000 < n2)
    · have h2' := of_decide_eq_false h2
      have d2 : decide ((3000 : Int) < (n2 : Int)) = false := by simp; omega
      go_enter Tryd.func5, Tryd.ntmps5
      go_wp2
      go_ret
      exact ⟨rfl, rfl⟩
    · have h2' := of_decide_eq_true h2
      have d2 : decide ((3000 : Int) < (n2 : Int)) = true := by simp; omega
      go_enter Tryd.func5, Tryd.ntmps5
      go_wp2
      go_ret
      exact ⟨rfl, rfl⟩
end Go.Proofs.YthchdbjgjnpooaaDoor
