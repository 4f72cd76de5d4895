/- a2Byte as a number that the bytes alone determine. -/
import Derived.Test.YtkdadaocbfbndaaA2
namespace Go.Proofs.Ytkdadaocbfbndaa
set_option linter.unusedVariables false
open Go.RowKit
set_option maxHeartbeats 1000000 in
theorem a2byte' (A : Option Addr) (n c at0 m : Nat) (w : World) (h : BytesIn w A n) (hn : n ≤ 1048576) (hat : at0 ≤ 16) (hm : m ≤ 1048576) :
    ∃ r : Nat, (r = 0 ∨ r < m) ∧ ∀ W : World, W.heap = w.heap → Calls Try.prog 34 #[.slice A n c, .int .i64 at0, .int .i64 m] W fun e w' => e = .returned (.int .i64 (r : Int)) ∧ w' = W := by
  by_cases h1 : at0 < n
  · obtain ⟨b, o, rfl, hb, hc⟩ := h.resolve_left (by omega)
    by_cases hm1 : 1 ≤ m
    · obtain ⟨x, hx, px⟩ := hc at0 h1
      by_cases h2 : at0 + 1 < n
      · obtain ⟨y, hy, py⟩ := hc (at0 + 1) h2
        clear hc h
        refine ⟨(256 * x + y) % m, .inr (Nat.mod_lt _ (by omega)), fun W hW => ?_⟩
        have qx := (World.cell?_of_block (w := w) (w' := W) (a := ⟨b, o + at0, none⟩) (by rw [hW])).trans px
        have qy := (World.cell?_of_block (w := w) (w' := W) (a := ⟨b, o + (at0 + 1), none⟩) (by rw [hW])).trans py
        clear px py hW
        go_enter Try.func34, Try.ntmps34
        go_wp2
        go_ret
        refine ⟨ret_int ?_, rfl⟩
        first | rfl | (simp; done) | (push_cast; rfl) | omega
      · clear hc h
        refine ⟨x % m, .inr (Nat.mod_lt _ (by omega)), fun W hW => ?_⟩
        have qx := (World.cell?_of_block (w := w) (w' := W) (a := ⟨b, o + at0, none⟩) (by rw [hW])).trans px
        clear px hW
        go_enter Try.func34, Try.ntmps34
        go_wp2
        go_ret
        refine ⟨ret_int ?_, rfl⟩
        first | rfl | (simp; done) | (push_cast; rfl) | omega
    · clear hc h
      refine ⟨0, .inl rfl, fun W hW => ?_⟩
      clear hW
      go_enter Try.func34, Try.ntmps34
      go_wp2
      go_ret
      exact ⟨rfl, rfl⟩
  · clear h
    refine ⟨0, .inl rfl, fun W hW => ?_⟩
    clear hW
    go_enter Try.func34, Try.ntmps34
    go_wp2
    go_ret
    exact ⟨rfl, rfl⟩
end Go.Proofs.Ytkdadaocbfbndaa
