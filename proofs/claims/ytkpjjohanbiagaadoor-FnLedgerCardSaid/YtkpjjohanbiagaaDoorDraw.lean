/- The reference's source of choices: next, pick, one, among. -/
import Derived.Test.YtkpjjohanbiagaaDoorOwn
import Derived.Laws.BytesArg
namespace Go.Proofs.YtkpjjohanbiagaaDoor
set_option linter.unusedVariables false
set_option linter.unusedSimpArgs false
open Go.RowKit

/-- a slice of bytes that came in -/
def BytesIn (w : World) (A : Option Addr) (n : Nat) : Prop := n = 0 ∨ ∃ b o, A = some ⟨b, o, none⟩ ∧ b < w.heap.size ∧ ∀ j, j < n → ∃ x : Nat, x < 256 ∧ w.cell? ⟨b, o + j, none⟩ = some (.int .u8 (x : Int))
theorem BytesIn.below {w w' : World} {A : Option Addr} {n K : Nat} (h : BytesIn w A n) (hb : Below K w w') (hK : w.heap.size ≤ K) : BytesIn w' A n := by
  rcases h with h | ⟨b, o, rfl, hlt, hc⟩
  · exact .inl h
  · exact .inr ⟨b, o, rfl, Nat.lt_of_lt_of_le hlt hb.size, fun j hj => by
      obtain ⟨x, hx, h⟩ := hc j hj
      exact ⟨x, hx, (hb.cell (p := ⟨b, o + j, none⟩) (by show b < K; omega)).trans h⟩⟩
/-- a source in block g over the bytes A, read up to place a -/
structure DrAt (w : World) (g : Nat) (A : Option Addr) (n c : Nat) (a : Nat) : Prop where
  lt : g < w.heap.size
  code : w.cell? ⟨g, 0, none⟩ = some (.slice A n c)
  at_ : w.cell? ⟨g, 1, none⟩ = some (.int .i64 (a : Int))
  seed : ∃ y, w.cell? ⟨g, 2, none⟩ = some (.int .u64 y)
  fr : ∀ j, w.frozen? ⟨g, j, none⟩ = false
  bytes : n = 0 ∨ ∃ b o, A = some ⟨b, o, none⟩ ∧ b < g ∧ ∀ j, j < n → ∃ x : Nat, x < 256 ∧ w.cell? ⟨b, o + j, none⟩ = some (.int .u8 (x : Int))
theorem DrAt.keep {w w' : World} {g : Nat} {A : Option Addr} {n c a : Nat} (h : DrAt w g A n c a) (hb : ∀ k, k ≤ g → w'.heap[k]? = w.heap[k]?) (hs : w.heap.size ≤ w'.heap.size) : DrAt w' g A n c a := by
  have hg := hb g (Nat.le_refl _)
  refine ⟨Nat.lt_of_lt_of_le h.lt hs, (World.cell?_of_block (a := ⟨g, 0, none⟩) hg).trans h.code, (World.cell?_of_block (a := ⟨g, 1, none⟩) hg).trans h.at_, ?_, fun j => (World.frozen?_of_block (a := ⟨g, j, none⟩) hg).trans (h.fr j), ?_⟩
  · obtain ⟨y, hy⟩ := h.seed
    exact ⟨y, (World.cell?_of_block (a := ⟨g, 2, none⟩) hg).trans hy⟩
  · rcases h.bytes with h0 | ⟨b, o, h1, h2, h3⟩
    · exact .inl h0
    · exact .inr ⟨b, o, h1, h2, fun j hj => by
        obtain ⟨x, hx, h⟩ := h3 j hj
        exact ⟨x, hx, (World.cell?_of_block (a := ⟨b, o + j, none⟩) (hb b (by omega))).trans h⟩⟩
theorem DrAt.next {w : World} {g : Nat} {A : Option Addr} {n c a : Nat} {y' : Int} (h : DrAt w g A n c a) : DrAt ((w.setCell ⟨g, 1, none⟩ (.int .i64 ((a : Int) + 1))).setCell ⟨g, 2, none⟩ (.int .u64 y')) g A n c (a + 1) := by
  obtain ⟨y, hy⟩ := h.seed
  refine ⟨by simpa using h.lt, ?_, ?_, ⟨y', ?_⟩, ?_, ?_⟩
  · rw [World.cell?_setCell_other _ _ _ _ (by intro e; injection e with _ e _; omega), World.cell?_setCell_other _ _ _ _ (by intro e; injection e with _ e _; omega)]; exact h.code
  · rw [World.cell?_setCell_other _ _ _ _ (by intro e; injection e with _ e _; omega)]
    exact World.cell?_setCell_same _ _ _ h.at_
  · exact World.cell?_setCell_same _ _ _ ((World.cell?_setCell_other _ _ _ _ (by intro e; injection e with _ e _; omega)).trans hy)
  · intro j
    rw [World.frozen?_setCell, World.frozen?_setCell]; exact h.fr j
  · rcases h.bytes with h0 | ⟨b, o, h1, h2, h3⟩
    · exact .inl h0
    · exact .inr ⟨b, o, h1, h2, fun j hj => by
        obtain ⟨x, hx, h⟩ := h3 j hj
        exact ⟨x, hx, by
          rw [World.cell?_setCell_other _ _ _ _ (by intro e; injection e with e _ _; omega), World.cell?_setCell_other _ _ _ _ (by intro e; injection e with e _ _; omega)]; exact h⟩⟩
theorem chg_two (w : World) (g : Nat) (u v : Value) : Chg g (g + 1) w ((w.setCell ⟨g, 1, none⟩ u).setCell ⟨g, 2, none⟩ v) :=
  ⟨rfl, rfl, rfl, by simp, fun i hi hne => (Below.heap_setCell _ _ _ i (by rintro rfl; exact hne ⟨Nat.le_refl _, Nat.lt_succ_self _⟩)).trans (Below.heap_setCell _ _ _ i (by rintro rfl; exact hne ⟨Nat.le_refl _, Nat.lt_succ_self _⟩))⟩
theorem Chg.same {B E : Nat} {a b c : World} (h : Chg B E a b) (h1 : c.heap = b.heap) (h2 : c.os = b.os) (h3 : c.tape = b.tape) (h4 : c.output = b.output) : Chg B E a c :=
  ⟨h2.trans h.os, h3.trans h.tape, h4.trans h.output, by rw [h1]; exact h.size, fun k hk hne => by rw [h1]; exact h.block k hk hne⟩
theorem and255 (z : Int) : ∃ r : Nat, r < 256 ∧ bits .and .u64 z 255 = (r : Int) := by
  refine ⟨(BitVec.ofInt 64 z &&& BitVec.ofInt 64 255).toNat, ?_, ?_⟩
  · rw [BitVec.toNat_and]
    have : (BitVec.ofInt 64 255).toNat = 255 := by decide
    rw [this]
    exact Nat.lt_of_le_of_lt Nat.and_le_right (by omega)
  · have h : (BitVec.ofInt 64 z &&& BitVec.ofInt 64 255).toNat < 18446744073709551616 := (BitVec.ofInt 64 z &&& BitVec.ofInt 64 255).isLt
    show IntKind.u64.wrap ((BitVec.ofInt 64 z &&& BitVec.ofInt 64 255).toNat : Int) = _
    rw [IntKind.wrap_u64]
    omega
set_option maxHeartbeats 1000000 in
theorem next_s (g : Nat) (A : Option Addr) (n c a : Nat) (w : World) (h : DrAt w g A n c a) (hn : n ≤ 1048576) (ha : a ≤ 1099511627776) :
    Calls Tryd.prog 84 #[.pointer (some ⟨g, 0, none⟩)] w fun e w' => ∃ r : Nat, r < 256 ∧ e = .returned (.int .i64 (r : Int)) ∧ DrAt w' g A n c (a + 1) ∧ Chg g (g + 1) w w' ∧ w'.heap.size = w.heap.size := by
  have HD := Lib.hid h
  have p0 := h.code
  have p1 := h.at_
  obtain ⟨y, p2⟩ := h.seed
  have f1 := h.fr 1
  have f2 := h.fr 2
  by_cases hlt : a < n
  · obtain ⟨b, o, rfl, hb, hc⟩ := h.bytes.resolve_left (by omega)
    obtain ⟨x, hx, px⟩ := hc a hlt
    clear hc h
    go_enter Tryd.func84, Tryd.ntmps84
    go_wp2
    go_quiet (fail)
    go_wp2
    go_quiet (fail)
    go_wp2
    go_quiet (fail)
    go_wp2
    go_ret
    exact ⟨x, hx, rfl, HD.out.next.keep (fun _ _ => rfl) (Nat.le_refl _), (chg_two w g _ _).same rfl rfl rfl rfl, by simp⟩
  · clear h
    go_enter Tryd.func84, Tryd.ntmps84
    go_wp2
    go_quiet (fail)
    go_wp2
    go_quiet (fail)
    go_wp2
    go_ret
    obtain ⟨r, hr, he⟩ := and255 (IntKind.u64.wrap (IntKind.u64.wrap (IntKind.u64.wrap (y * 6364136223846793005)) + 1442695040888963407) / 1099511627776)
    refine ⟨r, hr, ?_, HD.out.next.keep (fun _ _ => rfl) (Nat.le_refl _), (chg_two w g _ _).same rfl rfl rfl rfl, by simp⟩
    refine ret_int ?_
    rw [← he.symm]
    first | exact wrap64_nat _ (by omega) | (show wrap64 _ = _; rw [he]; exact wrap64_nat _ (by omega))
end Go.Proofs.YtkpjjohanbiagaaDoor
