/- A2Group, a2Byte: the walks. -/
import Derived.Test.YtkdadaocbfbndaaDrawG
namespace Go.Proofs.Ytkdadaocbfbndaa
set_option linter.unusedVariables false
open Go.RowKit
set_option maxHeartbeats 1000000 in
theorem a2group_s (A : Option Addr) (n c : Nat) (w : World) (h : BytesIn w A n) (hn : n ≤ 1048576) :
    Calls Try.prog 33 #[.slice A n c] w fun e w' => ∃ v l, e = .returned v ∧ StringL w.heap.size w' v l ∧ groupB l = true ∧ Below w.heap.size w w' := by
  have hD : DrAt (w.alloc (.cells #[.slice A n c, .int .i64 0, .int .u64 0] 80)) w.heap.size A n c 0 := by
    refine ⟨by simp, by simp, by simp, ⟨0, by simp⟩, by simp, ?_⟩
    rcases h with h | ⟨b, o, h1, h2, h3⟩
    · exact .inl h
    · exact .inr ⟨b, o, h1, h2, fun j hj => by
        obtain ⟨x, hx, hc⟩ := h3 j hj
        exact ⟨x, hx, (World.cell?_alloc_old _ _ _ (Nat.ne_of_lt h2)).trans hc⟩⟩
  have HG := drawG_s w.heap.size A n c 0 _ hD hn (by omega)
  clear h hD
  go_enter Try.func33, Try.ntmps33
  go_wp2_with (first | (go_at_call 57; refine HG.mono ?_; rintro e w1 ⟨v, l, rfl, hO, hg, hC⟩) | go_in)
  go_ret
  exact ⟨v, l, rfl, OwnL.base hO (by simp), hg, (Below.alloc (Below.refl _ _) (Nat.le_refl _) _).trans ⟨hC.os, hC.tape, hC.output, hC.size, fun k hk => hC.block k (by simp; omega) (by omega)⟩⟩
set_option maxHeartbeats 1000000 in
theorem a2byte (A : Option Addr) (n c at0 m : Nat) (w : World) (h : BytesIn w A n) (hn : n ≤ 1048576) (hat : at0 ≤ 16) (hm : m ≤ 1048576) :
    Calls Try.prog 34 #[.slice A n c, .int .i64 at0, .int .i64 m] w fun e w' => ∃ r : Nat, (r = 0 ∨ r < m) ∧ e = .returned (.int .i64 (r : Int)) ∧ w = w' := by
  by_cases h1 : at0 < n
  · obtain ⟨b, o, rfl, hb, hc⟩ := h.resolve_left (by omega)
    by_cases hm1 : 1 ≤ m
    · obtain ⟨x, hx, px⟩ := hc at0 h1
      by_cases h2 : at0 + 1 < n
      · obtain ⟨y, hy, py⟩ := hc (at0 + 1) h2
        clear hc h
        go_enter Try.func34, Try.ntmps34
        go_wp2
        go_ret
        refine ⟨(256 * x + y) % m, .inr (Nat.mod_lt _ (by omega)), ret_int ?_, rfl⟩
        first | rfl | (simp; done) | (push_cast; rfl) | omega
      · clear hc h
        go_enter Try.func34, Try.ntmps34
        go_wp2
        go_ret
        refine ⟨x % m, .inr (Nat.mod_lt _ (by omega)), ret_int ?_, rfl⟩
        first | rfl | (simp; done) | (push_cast; rfl) | omega
    · clear hc h
      go_enter Try.func34, Try.ntmps34
      go_wp2
      go_ret
      exact ⟨0, .inl rfl, rfl, rfl⟩
  · clear h
    go_enter Try.func34, Try.ntmps34
    go_wp2
    go_ret
    exact ⟨0, .inl rfl, rfl, rfl⟩
end Go.Proofs.Ytkdadaocbfbndaa
