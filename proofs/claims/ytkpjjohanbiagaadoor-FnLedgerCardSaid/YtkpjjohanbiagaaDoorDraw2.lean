/- The reference's source of choices: pick, one, among. -/
import Derived.Test.YtkpjjohanbiagaaDoorDraw
namespace Go.Proofs.YtkpjjohanbiagaaDoor
set_option linter.unusedVariables false
set_option linter.unusedSimpArgs false
open Go.RowKit
/-- the world behind a choice from the source in block g -/
def DrPost (g : Nat) (A : Option Addr) (n c a m : Nat) (w w' : World) : Prop := ∃ a', a ≤ a' ∧ a' ≤ a + m ∧ DrAt w' g A n c a' ∧ Chg g (g + 1) w w' ∧ w'.heap.size = w.heap.size
set_option maxHeartbeats 1000000 in
theorem pick_s (g : Nat) (A : Option Addr) (n c a k : Nat) (w : World) (h : DrAt w g A n c a) (hn : n ≤ 1048576) (ha : a ≤ 1099511627775) (hk : k ≤ 1048576) :
    Calls Tryd.prog 68 #[.pointer (some ⟨g, 0, none⟩), .int .i64 k] w fun e w' => ∃ r : Nat, (r = 0 ∨ r < k) ∧ e = .returned (.int .i64 (r : Int)) ∧ DrPost g A n c a 2 w w' := by
  by_cases h1 : k ≤ 1
  · go_enter Tryd.func68, Tryd.ntmps68
    go_wp2
    go_ret
    exact ⟨0, .inl rfl, rfl, a, by omega, by omega, h, Chg.of_below (Below.refl _ _), rfl⟩
  · by_cases h2 : k ≤ 200
    · go_enter Tryd.func68, Tryd.ntmps68
      go_wp2_with (go_at_call 84; refine (next_s g A n c a _ h hn (by omega)).mono ?_; rintro e w1 ⟨r, hr, rfl, hd, hch, hsz⟩)
      go_ret
      refine ⟨r % k, .inr (Nat.mod_lt _ (by omega)), ret_int ?_, a + 1, by omega, by omega, hd, hch, hsz⟩
      first | rfl | (simp; done) | (push_cast; rfl) | omega
    · go_enter Tryd.func68, Tryd.ntmps68
      go_wp2_with (fail)
      refine (next_s g A n c a _ h hn (by omega)).mono ?_; rintro e w1 ⟨r, hr, rfl, hd, hch, hsz⟩
      go_wp2_with (fail)
      refine (next_s g A n c (a + 1) _ hd hn (by omega)).mono ?_; rintro e w2 ⟨r2, hr2, rfl, hd2, hch2, hsz2⟩
      go_wp2
      go_ret
      refine ⟨(r * 256 + r2) % k, .inr (Nat.mod_lt _ (by omega)), ret_int ?_, a + 2, by omega, by omega, hd2, hch.trans hch2, hsz2.trans hsz⟩
      first | rfl | (simp; done) | (push_cast; rfl) | omega
set_option maxHeartbeats 1000000 in
theorem one_s (g : Nat) (A : Option Addr) (n c a k : Nat) (w : World) (h : DrAt w g A n c a) (hn : n ≤ 1048576) (ha : a ≤ 1099511627775) (hk : k ≤ 1048576) :
    Calls Tryd.prog 43 #[.pointer (some ⟨g, 0, none⟩), .int .i64 k] w fun e w' => ∃ b : Bool, e = .returned (.bool b) ∧ DrPost g A n c a 2 w w' := by
  go_enter Tryd.func43, Tryd.ntmps43
  go_wp2_with (go_at_call 68; refine (pick_s g A n c a k _ h hn ha hk).mono ?_; rintro e w1 ⟨r, hr, rfl, hp⟩)
  go_ret
  exact ⟨_, rfl, hp⟩
set_option maxHeartbeats 1000000 in
theorem among_s (g : Nat) (A : Option Addr) (n c a : Nat) (gl cl : Nat) (l : List Int) (w : World) (h : DrAt w g A n c a) (hn : n ≤ 1048576) (ha : a ≤ 1099511627775) (hl : 0 < l.length) (hl2 : l.length ≤ 1048576) (hgl : g < gl) (hgw : gl < w.heap.size) (hc : ∀ j x, l[j]? = some x → w.cell? ⟨gl, j, none⟩ = some (.int .i64 x)) :
    Calls Tryd.prog 69 #[.pointer (some ⟨g, 0, none⟩), .slice (some ⟨gl, 0, none⟩) l.length cl] w fun e w' => ∃ x : Int, x ∈ l ∧ e = .returned (.int .i64 x) ∧ DrPost g A n c a 2 w w' := by
  have HC := Lib.hid hc
  clear hc
  go_enter Tryd.func69, Tryd.ntmps69
  go_wp2_with (fail)
  refine (pick_s g A n c a l.length _ h hn ha hl2).mono ?_; rintro e w1 ⟨r, hr, rfl, hp⟩
  have hrl : r < l.length := by omega
  obtain ⟨x, hx⟩ : ∃ x, l[r]? = some x := ⟨l[r], List.getElem?_eq_getElem hrl⟩
  obtain ⟨a', ha1, ha2, hd, hch, hsz⟩ := hp
  have px := (World.cell?_of_block (a := ⟨gl, r, none⟩) (hch.block gl hgw (by omega))).trans (HC.out r x hx)
  have HX := Lib.hid (List.mem_of_getElem? hx)
  clear hx hr
  go_wp2
  go_ret
  exact ⟨x, HX.out, rfl, a', ha1, ha2, hd, hch, hsz⟩
end Go.Proofs.YtkpjjohanbiagaaDoor
